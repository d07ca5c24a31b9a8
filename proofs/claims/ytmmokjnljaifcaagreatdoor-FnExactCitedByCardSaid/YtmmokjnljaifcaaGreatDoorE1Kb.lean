/- Texts merged (a claim holds at most sixty files): Kb, Kd, Qd, Ke, Kf. -/
import Derived.Test.YtmmokjnljaifcaaGreatDoorE1Je
import Derived.Test.YtmmokjnljaifcaaGreatDoorE1Jd
import Derived.Test.YtmmokjnljaifcaaGreatDoorE1Ka
/- Contracts: reigns and chanceries, the program's and the reference's. (Printed by genKb.py.) -/
namespace Go.Proofs.YtmmokjnljaifcaaGreatDoor
set_option linter.unusedVariables false
set_option linter.unusedSimpArgs false
open Go.RowKit
attribute [local go_sem] cell_onto

theorem spec_l01Day_b {n : Int} {b : Bool} (hb : B (DayOk n) = b) (w : World) : Calls Tryz.prog 169 #[.int .i64 n] w (RetS (.bool b) w) := by
  subst hb; exact spec_l01Day n w
theorem spec_l01In_k {n lo hi : Int} {b : Bool} (hb : B (lo ≤ n ∧ n ≤ hi) = b) (w : World) : Calls Tryz.prog 122 #[.int .i64 n, .int .i64 lo, .int .i64 hi] w (RetS (.bool b) w) := by
  subst hb; exact spec_l01In n lo hi w
set_option maxHeartbeats 2000000 in
theorem impl_isReign (x : Nsp) (w : World) : Calls Tryz.prog 245 #[.agg #[.string x.nm, .int .i64 x.fr, .int .i64 x.to]] w (RetX (.bool (B (NspOk x))) w) := by
  obtain ⟨q1, eq1⟩ : ∃ b, B (NameOk x.nm 12) = b := ⟨_, rfl⟩
  have Hq1 := Lib.hid eq1
  clear eq1
  obtain ⟨q2, eq2⟩ : ∃ b, B (DayOk x.fr) = b := ⟨_, rfl⟩
  have Hq2 := Lib.hid eq2
  clear eq2
  obtain ⟨q3, eq3⟩ : ∃ b, B (DayOk x.to) = b := ⟨_, rfl⟩
  have Hq3 := Lib.hid eq3
  clear eq3
  go_enter Tryz.func245, Tryz.ntmps245
  go_wp2_with fail
  refine Calls.mono (impl_isSmall_b Hq1.out _ (by decide)) ?_
  rintro e w1 ⟨rfl, hx1⟩
  have bx := (Boxed.new w [.string x.nm, .int .i64 x.fr, .int .i64 x.to] 276).ext hx1; have bx0 := bx.at0; have bx1 := bx.at1; have bx2 := bx.at2; have bxg := bx.1; have Hbx := Lib.hid bx; clear bx
  cases q1 with
  | false =>
    go_wp2_with fail
    go_ret
    exact ⟨ret_bool (B_false (fun h => absurd (h.1) (B_not.1 Hq1.out))).symm, (by repeat (first | exact Ext.refl _ | assumption | refine Ext.alloc ?_ _ | refine Ext.drew ?_ | refine Ext.drewN ?_ _ | refine Ext.setCell ?_ (by first | (simp; done) | (simp; omega) | omega) _ | refine Ext.trans ?_ (by assumption)))⟩
  | true =>
    go_wp2_with fail
    refine Calls.mono (impl_isDay_b Hq2.out _) ?_
    rintro e w2 ⟨rfl, rfl⟩
    cases q2 with
    | false =>
      go_wp2_with fail
      go_ret
      exact ⟨ret_bool (B_false (fun h => absurd (h.2.1) (B_not.1 Hq2.out))).symm, (by repeat (first | exact Ext.refl _ | assumption | refine Ext.alloc ?_ _ | refine Ext.drew ?_ | refine Ext.drewN ?_ _ | refine Ext.setCell ?_ (by first | (simp; done) | (simp; omega) | omega) _ | refine Ext.trans ?_ (by assumption)))⟩
    | true =>
      go_wp2_with fail
      refine Calls.mono (impl_isDay_b Hq3.out _) ?_
      rintro e w3 ⟨rfl, rfl⟩
      cases q3 with
      | false =>
        go_wp2_with fail
        go_ret
        exact ⟨ret_bool (B_false (fun h => absurd (h.2.2.1) (B_not.1 Hq3.out))).symm, (by repeat (first | exact Ext.refl _ | assumption | refine Ext.alloc ?_ _ | refine Ext.drew ?_ | refine Ext.drewN ?_ _ | refine Ext.setCell ?_ (by first | (simp; done) | (simp; omega) | omega) _ | refine Ext.trans ?_ (by assumption)))⟩
      | true =>
        by_cases h4 : x.fr ≤ x.to
        · have d4 : decide (x.fr ≤ x.to) = true := decide_eq_true h4
          go_wp2_with fail
          go_ret
          exact ⟨ret_bool (B_true ⟨B_iff.1 Hq1.out, B_iff.1 Hq2.out, B_iff.1 Hq3.out, h4⟩).symm, (by repeat (first | exact Ext.refl _ | assumption | refine Ext.alloc ?_ _ | refine Ext.drew ?_ | refine Ext.drewN ?_ _ | refine Ext.setCell ?_ (by first | (simp; done) | (simp; omega) | omega) _ | refine Ext.trans ?_ (by assumption)))⟩
        · have d4 : decide (x.fr ≤ x.to) = false := decide_eq_false h4
          go_wp2_with fail
          go_ret
          exact ⟨ret_bool (B_false (fun h => by have := h.2.2.2; omega)).symm, (by repeat (first | exact Ext.refl _ | assumption | refine Ext.alloc ?_ _ | refine Ext.drew ?_ | refine Ext.drewN ?_ _ | refine Ext.setCell ?_ (by first | (simp; done) | (simp; omega) | omega) _ | refine Ext.trans ?_ (by assumption)))⟩
set_option maxHeartbeats 2000000 in
theorem spec_l07Reign (x : Nsp) (w : World) (hs : x.nm.size ≤ 1048576) : Calls Tryz.prog 254 #[.agg #[.string x.nm, .int .i64 x.fr, .int .i64 x.to]] w (RetX (.bool (B (NspOk x))) w) := by
  obtain ⟨q1, eq1⟩ : ∃ b, B (NameOk x.nm 12) = b := ⟨_, rfl⟩
  have Hq1 := Lib.hid eq1
  clear eq1
  obtain ⟨q2, eq2⟩ : ∃ b, B (DayOk x.fr) = b := ⟨_, rfl⟩
  have Hq2 := Lib.hid eq2
  clear eq2
  obtain ⟨q3, eq3⟩ : ∃ b, B (DayOk x.to) = b := ⟨_, rfl⟩
  have Hq3 := Lib.hid eq3
  clear eq3
  go_enter Tryz.func254, Tryz.ntmps254
  go_wp2_with fail
  refine Calls.mono (spec_l01Name_b Hq1.out _ (by omega)) ?_
  rintro e w1 ⟨rfl, rfl⟩
  cases q1 with
  | false =>
    go_wp2_with fail
    go_ret
    exact ⟨ret_bool (B_false (fun h => absurd (h.1) (B_not.1 Hq1.out))).symm, (by repeat (first | exact Ext.refl _ | assumption | refine Ext.alloc ?_ _ | refine Ext.drew ?_ | refine Ext.drewN ?_ _ | refine Ext.setCell ?_ (by first | (simp; done) | (simp; omega) | omega) _ | refine Ext.trans ?_ (by assumption)))⟩
  | true =>
    go_wp2_with fail
    refine Calls.mono (spec_l01Day_b Hq2.out _) ?_
    rintro e w2 ⟨rfl, rfl⟩
    cases q2 with
    | false =>
      go_wp2_with fail
      go_ret
      exact ⟨ret_bool (B_false (fun h => absurd (h.2.1) (B_not.1 Hq2.out))).symm, (by repeat (first | exact Ext.refl _ | assumption | refine Ext.alloc ?_ _ | refine Ext.drew ?_ | refine Ext.drewN ?_ _ | refine Ext.setCell ?_ (by first | (simp; done) | (simp; omega) | omega) _ | refine Ext.trans ?_ (by assumption)))⟩
    | true =>
      go_wp2_with fail
      refine Calls.mono (spec_l01Day_b Hq3.out _) ?_
      rintro e w3 ⟨rfl, rfl⟩
      cases q3 with
      | false =>
        go_wp2_with fail
        go_ret
        exact ⟨ret_bool (B_false (fun h => absurd (h.2.2.1) (B_not.1 Hq3.out))).symm, (by repeat (first | exact Ext.refl _ | assumption | refine Ext.alloc ?_ _ | refine Ext.drew ?_ | refine Ext.drewN ?_ _ | refine Ext.setCell ?_ (by first | (simp; done) | (simp; omega) | omega) _ | refine Ext.trans ?_ (by assumption)))⟩
      | true =>
        by_cases h4 : x.fr ≤ x.to
        · have d4 : decide (x.fr ≤ x.to) = true := decide_eq_true h4
          go_wp2_with fail
          go_ret
          exact ⟨ret_bool (B_true ⟨B_iff.1 Hq1.out, B_iff.1 Hq2.out, B_iff.1 Hq3.out, h4⟩).symm, (by repeat (first | exact Ext.refl _ | assumption | refine Ext.alloc ?_ _ | refine Ext.drew ?_ | refine Ext.drewN ?_ _ | refine Ext.setCell ?_ (by first | (simp; done) | (simp; omega) | omega) _ | refine Ext.trans ?_ (by assumption)))⟩
        · have d4 : decide (x.fr ≤ x.to) = false := decide_eq_false h4
          go_wp2_with fail
          go_ret
          exact ⟨ret_bool (B_false (fun h => by have := h.2.2.2; omega)).symm, (by repeat (first | exact Ext.refl _ | assumption | refine Ext.alloc ?_ _ | refine Ext.drew ?_ | refine Ext.drewN ?_ _ | refine Ext.setCell ?_ (by first | (simp; done) | (simp; omega) | omega) _ | refine Ext.trans ?_ (by assumption)))⟩
set_option maxRecDepth 100000 in
set_option maxHeartbeats 4000000 in
theorem impl_AreReigns (v : Value) (l : List Nsp) (w : World) (h : Nsps w 0 w.heap.size v l) : Calls Tryz.prog 163 #[v] w (RetX (.bool (B (RgsOk l))) w) := by
  obtain ⟨A, c, rfl, hn, hc⟩ := h.len
  have H := Lib.hid h
  clear h
  go_enter Tryz.func163, Tryz.ntmps163
  go_wp2_with fail
  go_loopg [3, 4, 7] l.length (fun q u3 u4 i wr => ∃ j : Nat, j + q = l.length ∧ i = .int .i64 j ∧ Ext w wr ∧ ∀ i, i < j → RgStep l i)
  case atStart => exact ⟨0, by omega, rfl, Ext.refl _, fun i hi => absurd hi (by omega)⟩
  case round =>
    obtain ⟨j, hj, rfl, hx, hok⟩ := hrel
    have Hok := Lib.hid hok
    clear hok
    by_cases hlt : j < l.length
    · obtain ⟨b, off, rfl, _, hb, h1, h2, h3⟩ := (H.out.ext hx (Nat.le_refl _)).at_ hlt
      have hbr : b < wr.heap.size := Nat.lt_of_lt_of_le hb hx.size
      have hbr1 : b < wr.heap.size + 1 := by omega
      have hj0 : (0 : Int) ≤ (j : Int) := by omega
      have hji : (j : Int) < (l.length : Int) := by omega
      obtain ⟨q1, e1⟩ : ∃ b, B (NspOk (nspAt l j)) = b := ⟨_, rfl⟩
      have Hq := Lib.hid (show ∀ W, Calls Tryz.prog 245 #[.agg #[.string (nspAt l j).nm, .int .i64 (nspAt l j).fr, .int .i64 (nspAt l j).to]] W (RetX (.bool q1) W) from fun W => by subst e1; exact impl_isReign (nspAt l j) W)
      have H1 := Lib.hid e1
      clear e1
      cases q1 with
      | false =>
        go_wp2_with fail
        (refine wp_region_onto prog_mixed (by kernel_rfl) ?_; (repeat (go_big_quiet_step ((go_at_call 245; exact onto_callX (Hq.out _))))); refine onto_end ?_; intro w1 hx1)
        go_wp2_with fail
        go_ret
        exact ⟨ret_bool (B_false (fun h => B_not.1 H1.out (h.2 j hlt).1)).symm, (by repeat (first | exact Ext.refl _ | assumption | refine Ext.alloc ?_ _ | refine Ext.drew ?_ | refine Ext.drewN ?_ _ | refine Ext.setCell ?_ (by first | (simp; done) | (simp; omega) | omega) _ | refine Ext.trans ?_ (by assumption)))⟩
      | true =>
        by_cases h0 : 0 < j
        · have hb0 : decide ((0 : Int) < (j : Int)) = true := by simp; omega
          obtain ⟨b', off', e, _, _, k1, k2, k3⟩ := (H.out.ext hx (Nat.le_refl _)).at_ (i := j - 1) (by omega)
          injection e with e
          injection e with e1 e2
          subst e1 e2
          have hq0 : (0 : Int) ≤ (j : Int) - 1 := by omega
          have hq1 : (j : Int) - 1 < (l.length : Int) := by omega
          have hq2 : ((j : Int) - 1).toNat = j - 1 := by omega
          by_cases hf : (nspAt l j).fr < (nspAt l (j - 1)).fr
          · have T3 : decide ((nspAt l j).fr < (nspAt l (j - 1)).fr) = true := decide_eq_true hf
            go_wp2_with fail
            (refine wp_region_onto prog_mixed (by kernel_rfl) ?_; (repeat (go_big_quiet_step ((go_at_call 245; exact onto_callX (Hq.out _))))); refine onto_end ?_; intro w1 hx1)
            go_wp2_with fail
            go_ret
            exact ⟨ret_bool (B_false (fun h => absurd ((h.2 j hlt).2 h0) (by omega))).symm, (by repeat (first | exact Ext.refl _ | assumption | refine Ext.alloc ?_ _ | refine Ext.drew ?_ | refine Ext.drewN ?_ _ | refine Ext.setCell ?_ (by first | (simp; done) | (simp; omega) | omega) _ | refine Ext.trans ?_ (by assumption)))⟩
          · have T3 : decide ((nspAt l j).fr < (nspAt l (j - 1)).fr) = false := decide_eq_false hf
            go_wp2_with fail
            (refine wp_region_onto prog_mixed (by kernel_rfl) ?_; (repeat (go_big_quiet_step ((go_at_call 245; exact onto_callX (Hq.out _))))); refine onto_end ?_; intro w1 hx1)
            go_wp2_with fail
            go_roundg (l.length - (j + 1))
            case measure => omega
            case rel => exact ⟨j + 1, by omega, by go_num, (by repeat (first | exact Ext.refl _ | assumption | refine Ext.alloc ?_ _ | refine Ext.drew ?_ | refine Ext.drewN ?_ _ | refine Ext.setCell ?_ (by first | (simp; done) | (simp; omega) | omega) _ | refine Ext.trans ?_ (by assumption))), rgs_step Hok.out ⟨B_iff.1 H1.out, fun _ => by omega⟩⟩
        · have hb0 : decide ((0 : Int) < (j : Int)) = false := by simp; omega
          go_wp2_with fail
          (refine wp_region_onto prog_mixed (by kernel_rfl) ?_; (repeat (go_big_quiet_step ((go_at_call 245; exact onto_callX (Hq.out _))))); refine onto_end ?_; intro w1 hx1)
          go_wp2_with fail
          go_roundg (l.length - (j + 1))
          case measure => omega
          case rel => exact ⟨j + 1, by omega, by go_num, (by repeat (first | exact Ext.refl _ | assumption | refine Ext.alloc ?_ _ | refine Ext.drew ?_ | refine Ext.drewN ?_ _ | refine Ext.setCell ?_ (by first | (simp; done) | (simp; omega) | omega) _ | refine Ext.trans ?_ (by assumption))), rgs_step Hok.out ⟨B_iff.1 H1.out, fun hh => absurd hh h0⟩⟩
    · obtain rfl : j = l.length := by omega
      have hji : ¬ (l.length : Int) < (l.length : Int) := by omega
      go_wp2_with fail
      go_ret
      refine ⟨ret_bool (B_eq ?_), (by repeat (first | exact Ext.refl _ | assumption | refine Ext.alloc ?_ _ | refine Ext.drew ?_ | refine Ext.drewN ?_ _ | refine Ext.setCell ?_ (by first | (simp; done) | (simp; omega) | omega) _ | refine Ext.trans ?_ (by assumption)))⟩
      simp only [decide_eq_true_eq]
      exact ⟨fun h => ⟨by omega, Hok.out⟩, fun h => by have := h.1; omega⟩
set_option maxRecDepth 100000 in
set_option maxHeartbeats 4000000 in
theorem spec_AreReigns (v : Value) (l : List Nsp) (w : World) (h : Nsps w 0 w.heap.size v l) (hsm : NSm l) : Calls Tryz.prog 168 #[v] w (RetX (.bool (B (RgsOk l))) w) := by
  obtain ⟨A, c, rfl, hn, hc⟩ := h.len
  have H := Lib.hid h
  clear h
  have Hsm := Lib.hid hsm
  clear hsm
  go_enter Tryz.func168, Tryz.ntmps168
  go_wp2_with fail
  go_loopg [3] l.length (fun q i wr => ∃ j : Nat, j + q = l.length ∧ i = .int .i64 j ∧ Ext w wr ∧ ∀ i, i < j → RgStep l i)
  case atStart => exact ⟨0, by omega, rfl, Ext.refl _, fun i hi => absurd hi (by omega)⟩
  case round =>
    obtain ⟨j, hj, rfl, hx, hok⟩ := hrel
    have Hok := Lib.hid hok
    clear hok
    by_cases hlt : j < l.length
    · obtain ⟨b, off, rfl, _, hb, h1, h2, h3⟩ := (H.out.ext hx (Nat.le_refl _)).at_ hlt
      have hbr : b < wr.heap.size := Nat.lt_of_lt_of_le hb hx.size
      have hbr1 : b < wr.heap.size + 1 := by omega
      have hj0 : (0 : Int) ≤ (j : Int) := by omega
      have hji : (j : Int) < (l.length : Int) := by omega
      have hsz := Hsm.out j hlt
      obtain ⟨q1, e1⟩ : ∃ b, B (NspOk (nspAt l j)) = b := ⟨_, rfl⟩
      have Hq := Lib.hid (show ∀ W, Calls Tryz.prog 254 #[.agg #[.string (nspAt l j).nm, .int .i64 (nspAt l j).fr, .int .i64 (nspAt l j).to]] W (RetX (.bool q1) W) from fun W => by subst e1; exact spec_l07Reign (nspAt l j) W hsz)
      have H1 := Lib.hid e1
      clear e1
      cases q1 with
      | false =>
        go_wp2_with fail
        (refine wp_region_onto prog_mixed (by kernel_rfl) ?_; (repeat (go_big_quiet_step ((go_at_call 254; exact onto_callX (Hq.out _))))); refine onto_end ?_; intro w1 hx1)
        go_wp2_with fail
        go_ret
        exact ⟨ret_bool (B_false (fun h => B_not.1 H1.out (h.2 j hlt).1)).symm, (by repeat (first | exact Ext.refl _ | assumption | refine Ext.alloc ?_ _ | refine Ext.drew ?_ | refine Ext.drewN ?_ _ | refine Ext.setCell ?_ (by first | (simp; done) | (simp; omega) | omega) _ | refine Ext.trans ?_ (by assumption)))⟩
      | true =>
        by_cases h0 : 0 < j
        · have hb0 : decide ((0 : Int) < (j : Int)) = true := by simp; omega
          obtain ⟨b', off', e, _, _, k1, k2, k3⟩ := (H.out.ext hx (Nat.le_refl _)).at_ (i := j - 1) (by omega)
          injection e with e
          injection e with e1 e2
          subst e1 e2
          have hq0 : (0 : Int) ≤ (j : Int) - 1 := by omega
          have hq1 : (j : Int) - 1 < (l.length : Int) := by omega
          have hq2 : ((j : Int) - 1).toNat = j - 1 := by omega
          by_cases hf : (nspAt l j).fr < (nspAt l (j - 1)).fr
          · have T3 : decide ((nspAt l j).fr < (nspAt l (j - 1)).fr) = true := decide_eq_true hf
            go_wp2_with fail
            (refine wp_region_onto prog_mixed (by kernel_rfl) ?_; (repeat (go_big_quiet_step ((go_at_call 254; exact onto_callX (Hq.out _))))); refine onto_end ?_; intro w1 hx1)
            go_wp2_with fail
            go_ret
            exact ⟨ret_bool (B_false (fun h => absurd ((h.2 j hlt).2 h0) (by omega))).symm, (by repeat (first | exact Ext.refl _ | assumption | refine Ext.alloc ?_ _ | refine Ext.drew ?_ | refine Ext.drewN ?_ _ | refine Ext.setCell ?_ (by first | (simp; done) | (simp; omega) | omega) _ | refine Ext.trans ?_ (by assumption)))⟩
          · have T3 : decide ((nspAt l j).fr < (nspAt l (j - 1)).fr) = false := decide_eq_false hf
            go_wp2_with fail
            (refine wp_region_onto prog_mixed (by kernel_rfl) ?_; (repeat (go_big_quiet_step ((go_at_call 254; exact onto_callX (Hq.out _))))); refine onto_end ?_; intro w1 hx1)
            go_wp2_with fail
            go_roundg (l.length - (j + 1))
            case measure => omega
            case rel => exact ⟨j + 1, by omega, by go_num, (by repeat (first | exact Ext.refl _ | assumption | refine Ext.alloc ?_ _ | refine Ext.drew ?_ | refine Ext.drewN ?_ _ | refine Ext.setCell ?_ (by first | (simp; done) | (simp; omega) | omega) _ | refine Ext.trans ?_ (by assumption))), rgs_step Hok.out ⟨B_iff.1 H1.out, fun _ => by omega⟩⟩
        · have hb0 : decide ((0 : Int) < (j : Int)) = false := by simp; omega
          go_wp2_with fail
          (refine wp_region_onto prog_mixed (by kernel_rfl) ?_; (repeat (go_big_quiet_step ((go_at_call 254; exact onto_callX (Hq.out _))))); refine onto_end ?_; intro w1 hx1)
          go_wp2_with fail
          go_roundg (l.length - (j + 1))
          case measure => omega
          case rel => exact ⟨j + 1, by omega, by go_num, (by repeat (first | exact Ext.refl _ | assumption | refine Ext.alloc ?_ _ | refine Ext.drew ?_ | refine Ext.drewN ?_ _ | refine Ext.setCell ?_ (by first | (simp; done) | (simp; omega) | omega) _ | refine Ext.trans ?_ (by assumption))), rgs_step Hok.out ⟨B_iff.1 H1.out, fun hh => absurd hh h0⟩⟩
    · obtain rfl : j = l.length := by omega
      have hji : ¬ (l.length : Int) < (l.length : Int) := by omega
      go_wp2_with fail
      go_ret
      refine ⟨ret_bool (B_eq ?_), (by repeat (first | exact Ext.refl _ | assumption | refine Ext.alloc ?_ _ | refine Ext.drew ?_ | refine Ext.drewN ?_ _ | refine Ext.setCell ?_ (by first | (simp; done) | (simp; omega) | omega) _ | refine Ext.trans ?_ (by assumption)))⟩
      simp only [decide_eq_true_eq]
      exact ⟨fun h => ⟨by omega, Hok.out⟩, fun h => by have := h.1; omega⟩
set_option maxRecDepth 100000 in
set_option maxHeartbeats 4000000 in
theorem impl_IsChancery (v : Value) (c : Chan) (w : World) (h : Nsps w 0 w.heap.size v c.rg) : Calls Tryz.prog 78 #[.agg #[v, .int .i64 c.fr, .int .i64 c.to]] w (RetX (.bool (B (ChanOk c))) w) := by
  have H := Lib.hid h
  clear h
  obtain ⟨q1, eq1⟩ : ∃ b, B (RgsOk c.rg) = b := ⟨_, rfl⟩
  have Hq1 := Lib.hid eq1
  clear eq1
  obtain ⟨q2, eq2⟩ : ∃ b, B (DayOk c.fr) = b := ⟨_, rfl⟩
  have Hq2 := Lib.hid eq2
  clear eq2
  obtain ⟨q3, eq3⟩ : ∃ b, B (DayOk c.to) = b := ⟨_, rfl⟩
  have Hq3 := Lib.hid eq3
  clear eq3
  go_enter Tryz.func78, Tryz.ntmps78
  go_wp2_with fail
  refine Calls.mono (impl_AreReigns v c.rg _ (H.out.up (by repeat (first | exact Ext.refl _ | assumption | refine Ext.alloc ?_ _ | refine Ext.drew ?_ | refine Ext.drewN ?_ _ | refine Ext.setCell ?_ (by first | (simp; done) | (simp; omega) | omega) _ | refine Ext.trans ?_ (by assumption))))) ?_
  rintro e w1 ⟨rfl, hx1⟩
  rw [Hq1.out]
  have bx := (Boxed.new w [v, .int .i64 c.fr, .int .i64 c.to] 26).ext hx1; have bx0 := bx.at0; have bx1 := bx.at1; have bx2 := bx.at2; have bxg := bx.1; have Hbx := Lib.hid bx; clear bx
  cases q1 with
  | false =>
    go_wp2_with fail
    go_ret
    exact ⟨ret_bool (B_false (fun h => absurd (h.1) (B_not.1 Hq1.out))).symm, (by repeat (first | exact Ext.refl _ | assumption | refine Ext.alloc ?_ _ | refine Ext.drew ?_ | refine Ext.drewN ?_ _ | refine Ext.setCell ?_ (by first | (simp; done) | (simp; omega) | omega) _ | refine Ext.trans ?_ (by assumption)))⟩
  | true =>
    go_wp2_with fail
    refine Calls.mono (impl_isDay_b Hq2.out _) ?_
    rintro e w2 ⟨rfl, rfl⟩
    cases q2 with
    | false =>
      go_wp2_with fail
      go_ret
      exact ⟨ret_bool (B_false (fun h => absurd (h.2.1) (B_not.1 Hq2.out))).symm, (by repeat (first | exact Ext.refl _ | assumption | refine Ext.alloc ?_ _ | refine Ext.drew ?_ | refine Ext.drewN ?_ _ | refine Ext.setCell ?_ (by first | (simp; done) | (simp; omega) | omega) _ | refine Ext.trans ?_ (by assumption)))⟩
    | true =>
      go_wp2_with fail
      refine Calls.mono (impl_isDay_b Hq3.out _) ?_
      rintro e w3 ⟨rfl, rfl⟩
      cases q3 with
      | false =>
        go_wp2_with fail
        go_ret
        exact ⟨ret_bool (B_false (fun h => absurd (h.2.2.1) (B_not.1 Hq3.out))).symm, (by repeat (first | exact Ext.refl _ | assumption | refine Ext.alloc ?_ _ | refine Ext.drew ?_ | refine Ext.drewN ?_ _ | refine Ext.setCell ?_ (by first | (simp; done) | (simp; omega) | omega) _ | refine Ext.trans ?_ (by assumption)))⟩
      | true =>
        obtain ⟨f1, f2⟩ := B_iff.1 Hq2.out
        obtain ⟨f3, f4⟩ := B_iff.1 Hq3.out
        by_cases h4 : c.fr ≤ c.to
        · have d4 : decide (c.fr ≤ c.to) = true := decide_eq_true h4
          have W1 : IntKind.i64.wrap (c.to - c.fr) = c.to - c.fr := IntWalk.i64_in _ (by omega)
          by_cases h5 : c.to - c.fr ≤ 20000
          · have d5 : decide (c.to - c.fr ≤ 20000) = true := decide_eq_true h5
            go_wp2_with fail
            go_ret
            exact ⟨ret_bool (B_true ⟨B_iff.1 Hq1.out, B_iff.1 Hq2.out, B_iff.1 Hq3.out, h4, h5⟩).symm, (by repeat (first | exact Ext.refl _ | assumption | refine Ext.alloc ?_ _ | refine Ext.drew ?_ | refine Ext.drewN ?_ _ | refine Ext.setCell ?_ (by first | (simp; done) | (simp; omega) | omega) _ | refine Ext.trans ?_ (by assumption)))⟩
          · have d5 : decide (c.to - c.fr ≤ 20000) = false := decide_eq_false h5
            go_wp2_with fail
            go_ret
            exact ⟨ret_bool (B_false (fun h => by have := h.2.2.2.2; omega)).symm, (by repeat (first | exact Ext.refl _ | assumption | refine Ext.alloc ?_ _ | refine Ext.drew ?_ | refine Ext.drewN ?_ _ | refine Ext.setCell ?_ (by first | (simp; done) | (simp; omega) | omega) _ | refine Ext.trans ?_ (by assumption)))⟩
        · have d4 : decide (c.fr ≤ c.to) = false := decide_eq_false h4
          go_wp2_with fail
          go_ret
          exact ⟨ret_bool (B_false (fun h => by have := h.2.2.2.1; omega)).symm, (by repeat (first | exact Ext.refl _ | assumption | refine Ext.alloc ?_ _ | refine Ext.drew ?_ | refine Ext.drewN ?_ _ | refine Ext.setCell ?_ (by first | (simp; done) | (simp; omega) | omega) _ | refine Ext.trans ?_ (by assumption)))⟩
set_option maxRecDepth 100000 in
set_option maxHeartbeats 4000000 in
theorem spec_IsChancery (v : Value) (c : Chan) (w : World) (h : Nsps w 0 w.heap.size v c.rg) (hsm : NSm c.rg) : Calls Tryz.prog 82 #[.agg #[v, .int .i64 c.fr, .int .i64 c.to]] w (RetX (.bool (B (ChanOk c))) w) := by
  have H := Lib.hid h
  clear h
  obtain ⟨q1, eq1⟩ : ∃ b, B (RgsOk c.rg) = b := ⟨_, rfl⟩
  have Hq1 := Lib.hid eq1
  clear eq1
  obtain ⟨q2, eq2⟩ : ∃ b, B (DayOk c.fr) = b := ⟨_, rfl⟩
  have Hq2 := Lib.hid eq2
  clear eq2
  obtain ⟨q3, eq3⟩ : ∃ b, B (DayOk c.to) = b := ⟨_, rfl⟩
  have Hq3 := Lib.hid eq3
  clear eq3
  obtain ⟨q4, eq4⟩ : ∃ b, B (c.fr ≤ c.to ∧ c.to ≤ c.fr + 20000) = b := ⟨_, rfl⟩
  have Hq4 := Lib.hid eq4
  clear eq4
  go_enter Tryz.func82, Tryz.ntmps82
  go_wp2_with fail
  refine Calls.mono (spec_AreReigns v c.rg _ (H.out.up (by repeat (first | exact Ext.refl _ | assumption | refine Ext.alloc ?_ _ | refine Ext.drew ?_ | refine Ext.drewN ?_ _ | refine Ext.setCell ?_ (by first | (simp; done) | (simp; omega) | omega) _ | refine Ext.trans ?_ (by assumption)))) hsm) ?_
  rintro e w1 ⟨rfl, hx1⟩
  rw [Hq1.out]
  have bx := (Boxed.new w [v, .int .i64 c.fr, .int .i64 c.to] 26).ext hx1; have bx0 := bx.at0; have bx1 := bx.at1; have bx2 := bx.at2; have bxg := bx.1; have Hbx := Lib.hid bx; clear bx
  cases q1 with
  | false =>
    go_wp2_with fail
    go_ret
    exact ⟨ret_bool (B_false (fun h => absurd (h.1) (B_not.1 Hq1.out))).symm, (by repeat (first | exact Ext.refl _ | assumption | refine Ext.alloc ?_ _ | refine Ext.drew ?_ | refine Ext.drewN ?_ _ | refine Ext.setCell ?_ (by first | (simp; done) | (simp; omega) | omega) _ | refine Ext.trans ?_ (by assumption)))⟩
  | true =>
    go_wp2_with fail
    refine Calls.mono (spec_l01Day_b Hq2.out _) ?_
    rintro e w2 ⟨rfl, rfl⟩
    cases q2 with
    | false =>
      go_wp2_with fail
      go_ret
      exact ⟨ret_bool (B_false (fun h => absurd (h.2.1) (B_not.1 Hq2.out))).symm, (by repeat (first | exact Ext.refl _ | assumption | refine Ext.alloc ?_ _ | refine Ext.drew ?_ | refine Ext.drewN ?_ _ | refine Ext.setCell ?_ (by first | (simp; done) | (simp; omega) | omega) _ | refine Ext.trans ?_ (by assumption)))⟩
    | true =>
      go_wp2_with fail
      refine Calls.mono (spec_l01Day_b Hq3.out _) ?_
      rintro e w3 ⟨rfl, rfl⟩
      cases q3 with
      | false =>
        go_wp2_with fail
        go_ret
        exact ⟨ret_bool (B_false (fun h => absurd (h.2.2.1) (B_not.1 Hq3.out))).symm, (by repeat (first | exact Ext.refl _ | assumption | refine Ext.alloc ?_ _ | refine Ext.drew ?_ | refine Ext.drewN ?_ _ | refine Ext.setCell ?_ (by first | (simp; done) | (simp; omega) | omega) _ | refine Ext.trans ?_ (by assumption)))⟩
      | true =>
        obtain ⟨f1, f2⟩ := B_iff.1 Hq2.out
        obtain ⟨f3, f4⟩ := B_iff.1 Hq3.out
        have W1 : IntKind.i64.wrap (c.fr + 20000) = c.fr + 20000 := IntWalk.i64_in _ (by omega)
        go_wp2_with fail
        refine Calls.mono (spec_l01In_k Hq4.out _) ?_
        rintro e w4 ⟨rfl, rfl⟩
        cases q4 with
        | false =>
          go_wp2_with fail
          go_ret
          exact ⟨ret_bool (B_false (fun h => absurd (show c.fr ≤ c.to ∧ c.to ≤ c.fr + 20000 from ⟨h.2.2.2.1, by have := h.2.2.2.2; omega⟩) (B_not.1 Hq4.out))).symm, (by repeat (first | exact Ext.refl _ | assumption | refine Ext.alloc ?_ _ | refine Ext.drew ?_ | refine Ext.drewN ?_ _ | refine Ext.setCell ?_ (by first | (simp; done) | (simp; omega) | omega) _ | refine Ext.trans ?_ (by assumption)))⟩
        | true =>
          obtain ⟨g1, g2⟩ := B_iff.1 Hq4.out
          go_wp2_with fail
          go_ret
          exact ⟨ret_bool (B_true ⟨B_iff.1 Hq1.out, B_iff.1 Hq2.out, B_iff.1 Hq3.out, g1, by omega⟩).symm, (by repeat (first | exact Ext.refl _ | assumption | refine Ext.alloc ?_ _ | refine Ext.drew ?_ | refine Ext.drewN ?_ _ | refine Ext.setCell ?_ (by first | (simp; done) | (simp; omega) | omega) _ | refine Ext.trans ?_ (by assumption)))⟩
end Go.Proofs.YtmmokjnljaifcaaGreatDoor

/- Contract: IsPeople, the reference's. (Printed by genKc.py.) -/
namespace Go.Proofs.YtmmokjnljaifcaaGreatDoor
set_option linter.unusedVariables false
set_option linter.unusedSimpArgs false
open Go.RowKit
attribute [local go_sem] cell_onto

set_option maxRecDepth 100000 in
set_option maxHeartbeats 16000000 in
theorem spec_IsPeople (v u : Value) (P : Ppl) (w : World) (hp : Nsps w 0 w.heap.size v P.ps) (ht : Trms w 0 w.heap.size u P.tm) (hsm : NSm P.ps) (hst : ∀ i, i < P.tm.length → (trmAt P.tm i).of.size ≤ 1048576) : Calls Tryz.prog 83 #[.agg #[v, u]] w (RetX (.bool (B (PplOk P))) w) := by
  obtain ⟨Ap, cp, rfl, _, hcp⟩ := hp.len
  obtain ⟨At, ct, rfl, _, hct⟩ := ht.len
  have Hp := Lib.hid hp
  have Ht := Lib.hid ht
  clear hp ht
  have Hsm := Lib.hid hsm
  have Hst := Lib.hid hst
  clear hsm hst
  have Hb := Lib.hid (Boxed.new w [.slice Ap P.ps.length cp, .slice At P.tm.length ct] 30)
  go_enter Tryz.func83, Tryz.ntmps83
  go_wp2_with fail
  go_loopg [3, 4] P.ps.length (fun q i u4 wr => ∃ j : Nat, j + q = P.ps.length ∧ i = .int .i64 j ∧ Ext (w.alloc (.cells #[.slice Ap P.ps.length cp, .slice At P.tm.length ct] 30)) wr ∧ ∀ i, i < j → PsStep P.ps i)
  case atStart => exact ⟨0, by omega, rfl, (by repeat (first | exact Ext.refl _ | assumption | refine Ext.alloc ?_ _ | refine Ext.drew ?_ | refine Ext.drewN ?_ _ | refine Ext.setCell ?_ (by first | (simp; done) | (simp; omega) | omega) _ | refine Ext.trans ?_ (by assumption))), fun i hi => absurd hi (by omega)⟩
  case round =>
    obtain ⟨j, hj, rfl, hx0, hok⟩ := hrel
    have Hok := Lib.hid hok
    clear hok
    have hx : Ext w wr := (by repeat (first | exact Ext.refl _ | assumption | refine Ext.alloc ?_ _ | refine Ext.drew ?_ | refine Ext.drewN ?_ _ | refine Ext.setCell ?_ (by first | (simp; done) | (simp; omega) | omega) _ | refine Ext.trans ?_ (by assumption)))
    have bx := Hb.out.ext hx0; have bx0 := bx.at0; have bx1 := bx.at1; have bxg := bx.1; have Hbx := Lib.hid bx; clear bx
    have bxg1 : w.heap.size < wr.heap.size + 1 := by omega
    have hj0 : (0 : Int) ≤ (j : Int) := by omega
    by_cases hlt : j < P.ps.length
    · obtain ⟨b, off, rfl, _, hb, h1, h2, h3⟩ := (Hp.out.ext hx (Nat.le_refl _)).at_ hlt
      have hbr : b < wr.heap.size := Nat.lt_of_lt_of_le hb hx.size
      have hbr1 : b < wr.heap.size + 1 := by omega
      have hji : (j : Int) < (P.ps.length : Int) := by omega
      have hsz := Hsm.out j hlt
      obtain ⟨q1, eq1⟩ : ∃ b, B (NameOk (nspAt P.ps j).nm 12) = b := ⟨_, rfl⟩
      have Hq1 := Lib.hid eq1
      clear eq1
      obtain ⟨q2, eq2⟩ : ∃ b, B (SpOk ⟨(nspAt P.ps j).fr, (nspAt P.ps j).to⟩) = b := ⟨_, rfl⟩
      have Hq2 := Lib.hid eq2
      clear eq2
      cases q1 with
      | false =>
        go_wp2_with fail
        (refine wp_region_onto prog_mixed (by kernel_rfl) ?_; (repeat (go_big_quiet_step ((first | (go_at_call 170; exact onto_callS (spec_l01Name_b Hq1.out _ (by omega))) | (go_at_call 171; exact onto_callX (spec_l13Span_b Hq2.out _)))))); refine onto_end ?_; intro w1 hx1)
        go_wp2_with fail
        go_ret
        exact ⟨ret_bool (B_false (fun h => B_not.1 Hq1.out (by have h1 := (h.2.2.1 j hlt).1; exact h1.1))).symm, (by repeat (first | exact Ext.refl _ | assumption | refine Ext.alloc ?_ _ | refine Ext.drew ?_ | refine Ext.drewN ?_ _ | refine Ext.setCell ?_ (by first | (simp; done) | (simp; omega) | omega) _ | refine Ext.trans ?_ (by assumption)))⟩
      | true =>
        cases q2 with
        | false =>
          go_wp2_with fail
          (refine wp_region_onto prog_mixed (by kernel_rfl) ?_; (repeat (go_big_quiet_step ((first | (go_at_call 170; exact onto_callS (spec_l01Name_b Hq1.out _ (by omega))) | (go_at_call 171; exact onto_callX (spec_l13Span_b Hq2.out _)))))); refine onto_end ?_; intro w1 hx1)
          go_wp2_with fail
          go_ret
          exact ⟨ret_bool (B_false (fun h => B_not.1 Hq2.out (by have h1 := (h.2.2.1 j hlt).1; exact h1.2))).symm, (by repeat (first | exact Ext.refl _ | assumption | refine Ext.alloc ?_ _ | refine Ext.drew ?_ | refine Ext.drewN ?_ _ | refine Ext.setCell ?_ (by first | (simp; done) | (simp; omega) | omega) _ | refine Ext.trans ?_ (by assumption)))⟩
        | true =>
          have Hn := Lib.hid (show NspOk (nspAt P.ps j) from ⟨B_iff.1 Hq1.out, B_iff.1 Hq2.out⟩)
          by_cases h0 : 0 < j
          · have hb0 : decide ((0 : Int) < (j : Int)) = true := by simp; omega
            obtain ⟨b', off', e, _, _, k1, k2, k3⟩ := (Hp.out.ext hx (Nat.le_refl _)).at_ (i := j - 1) (by omega)
            injection e with e
            injection e with e1 e2
            subst e1 e2
            have hq0 : (0 : Int) ≤ (j : Int) - 1 := by omega
            have hq1 : (j : Int) - 1 < (P.ps.length : Int) := by omega
            have hq2 : ((j : Int) - 1).toNat = j - 1 := by omega
            by_cases hs : sLt (nspAt P.ps (j - 1)).nm (nspAt P.ps j).nm
            · have T1 := sl_false (sLt_asym hs)
              have T2 := str_ne (fun e => sLt_ne hs e.symm)
              have Hs := Lib.hid hs
              clear hs
              go_wp2_with fail
              (refine wp_region_onto prog_mixed (by kernel_rfl) ?_; (repeat (go_big_quiet_step ((first | (go_at_call 170; exact onto_callS (spec_l01Name_b Hq1.out _ (by omega))) | (go_at_call 171; exact onto_callX (spec_l13Span_b Hq2.out _)))))); refine onto_end ?_; intro w1 hx1)
              go_wp2_with fail
              go_roundg (P.ps.length - (j + 1))
              case measure => omega
              case rel => exact ⟨j + 1, by omega, by go_num, (by repeat (first | exact Ext.refl _ | assumption | refine Ext.alloc ?_ _ | refine Ext.drew ?_ | refine Ext.drewN ?_ _ | refine Ext.setCell ?_ (by first | (simp; done) | (simp; omega) | omega) _ | refine Ext.trans ?_ (by assumption))), ps_step Hok.out ⟨Hn.out, fun _ => Hs.out⟩⟩
            · by_cases hs2 : sLt (nspAt P.ps j).nm (nspAt P.ps (j - 1)).nm
              · have T1 := sl_true hs2
                have Hs := Lib.hid hs
                clear hs hs2
                go_wp2_with fail
                (refine wp_region_onto prog_mixed (by kernel_rfl) ?_; (repeat (go_big_quiet_step ((first | (go_at_call 170; exact onto_callS (spec_l01Name_b Hq1.out _ (by omega))) | (go_at_call 171; exact onto_callX (spec_l13Span_b Hq2.out _)))))); refine onto_end ?_; intro w1 hx1)
                go_wp2_with fail
                go_ret
                exact ⟨ret_bool (B_false (fun h => Hs.out ((h.2.2.1 j hlt).2 h0))).symm, (by repeat (first | exact Ext.refl _ | assumption | refine Ext.alloc ?_ _ | refine Ext.drew ?_ | refine Ext.drewN ?_ _ | refine Ext.setCell ?_ (by first | (simp; done) | (simp; omega) | omega) _ | refine Ext.trans ?_ (by assumption)))⟩
              · have T1 := sl_false hs2
                have T2 := str_is (sLt_tri hs2 hs)
                have Hs := Lib.hid hs
                clear hs hs2
                go_wp2_with fail
                (refine wp_region_onto prog_mixed (by kernel_rfl) ?_; (repeat (go_big_quiet_step ((first | (go_at_call 170; exact onto_callS (spec_l01Name_b Hq1.out _ (by omega))) | (go_at_call 171; exact onto_callX (spec_l13Span_b Hq2.out _)))))); refine onto_end ?_; intro w1 hx1)
                go_wp2_with fail
                go_ret
                exact ⟨ret_bool (B_false (fun h => Hs.out ((h.2.2.1 j hlt).2 h0))).symm, (by repeat (first | exact Ext.refl _ | assumption | refine Ext.alloc ?_ _ | refine Ext.drew ?_ | refine Ext.drewN ?_ _ | refine Ext.setCell ?_ (by first | (simp; done) | (simp; omega) | omega) _ | refine Ext.trans ?_ (by assumption)))⟩
          · have hb0 : decide ((0 : Int) < (j : Int)) = false := by simp; omega
            go_wp2_with fail
            (refine wp_region_onto prog_mixed (by kernel_rfl) ?_; (repeat (go_big_quiet_step ((first | (go_at_call 170; exact onto_callS (spec_l01Name_b Hq1.out _ (by omega))) | (go_at_call 171; exact onto_callX (spec_l13Span_b Hq2.out _)))))); refine onto_end ?_; intro w1 hx1)
            go_wp2_with fail
            go_roundg (P.ps.length - (j + 1))
            case measure => omega
            case rel => exact ⟨j + 1, by omega, by go_num, (by repeat (first | exact Ext.refl _ | assumption | refine Ext.alloc ?_ _ | refine Ext.drew ?_ | refine Ext.drewN ?_ _ | refine Ext.setCell ?_ (by first | (simp; done) | (simp; omega) | omega) _ | refine Ext.trans ?_ (by assumption))), ps_step Hok.out ⟨Hn.out, fun hh => absurd hh h0⟩⟩
    · obtain rfl : j = P.ps.length := by omega
      have hji : ¬ (P.ps.length : Int) < (P.ps.length : Int) := by omega
      have Hps := Lib.hid (show ∀ i, i < P.ps.length → PsStep P.ps i from Hok.out)
      clear hlt bxg1
      obtain ⟨wz, rfl⟩ : ∃ x : World, x = wr := ⟨_, rfl⟩
      go_wp2_with fail
      go_loopg [5, 6, 7] P.tm.length (fun q i u6 u7 wr => ∃ j : Nat, j + q = P.tm.length ∧ i = .int .i64 j ∧ Ext wz wr ∧ ∀ i, i < j → TrmOk P.ps (trmAt P.tm i))
      case atStart => exact ⟨0, by omega, rfl, (by repeat (first | exact Ext.refl _ | assumption | refine Ext.alloc ?_ _ | refine Ext.drew ?_ | refine Ext.drewN ?_ _ | refine Ext.setCell ?_ (by first | (simp; done) | (simp; omega) | omega) _ | refine Ext.trans ?_ (by assumption))), fun i hi => absurd hi (by omega)⟩
      case round =>
        obtain ⟨j, hj, rfl, hxz, hok⟩ := hrel
        have Htm := Lib.hid hok
        clear hok bx0 bx1 bxg
        have hx2 : Ext w wr := (by repeat (first | exact Ext.refl _ | assumption | refine Ext.alloc ?_ _ | refine Ext.drew ?_ | refine Ext.drewN ?_ _ | refine Ext.setCell ?_ (by first | (simp; done) | (simp; omega) | omega) _ | refine Ext.trans ?_ (by assumption)))
        have bx := Hbx.out.ext hxz
        have bx0 := bx.at0
        have bx1 := bx.at1
        have bxg := bx.1
        have Hby := Lib.hid bx
        clear bx
        have bxg1 : w.heap.size < wr.heap.size + 1 := by omega
        have hj0 : (0 : Int) ≤ (j : Int) := by omega
        by_cases hlt : j < P.tm.length
        · obtain ⟨b, off, rfl, _, hb, h1, h2, h3, h4⟩ := (Ht.out.ext hx2 (Nat.le_refl _)).at_ hlt
          have hbr : b < wr.heap.size := Nat.lt_of_lt_of_le hb hx2.size
          have hbr1 : b < wr.heap.size + 1 := by omega
          have hji : (j : Int) < (P.tm.length : Int) := by omega
          have hsz := Hst.out j hlt
          go_wp2_with fail
          refine Calls.mono (spec_l13Person _ _ P.ps (trmAt P.tm j).pe _ (Hp.out.up (by repeat (first | exact Ext.refl _ | assumption | refine Ext.alloc ?_ _ | refine Ext.drew ?_ | refine Ext.drewN ?_ _ | refine Ext.setCell ?_ (by first | (simp; done) | (simp; omega) | omega) _ | refine Ext.trans ?_ (by assumption))))) ?_
          rintro e w3 ⟨rfl, hx3⟩
          have bt := (Boxed.new wr [.string (trmAt P.tm j).of, .string (trmAt P.tm j).pe, .int .i64 (trmAt P.tm j).fr, .int .i64 (trmAt P.tm j).to] 198).ext hx3; have bt0 := bt.at0; have bt1 := bt.at1; have bt2 := bt.at2; have bt3 := bt.at3; have btg := bt.1; have Hbt := Lib.hid bt; clear bt
          have hxr3 : Ext wr w3 := (by repeat (first | exact Ext.refl _ | assumption | refine Ext.alloc ?_ _ | refine Ext.drew ?_ | refine Ext.drewN ?_ _ | refine Ext.setCell ?_ (by first | (simp; done) | (simp; omega) | omega) _ | refine Ext.trans ?_ (by assumption)))
          clear bx0 bx1 bxg bxg1
          have bx := Hby.out.ext hxr3
          have bx0 := bx.at0
          have bx1 := bx.at1
          have bxg := bx.1
          clear bx
          have hx3w : Ext w w3 := hx2.trans hxr3
          clear h1 h2 h3 h4 hbr hbr1
          obtain ⟨k, hk⟩ : ∃ k, psIx P.ps (trmAt P.tm j).pe = k := ⟨_, rfl⟩
          have Hk := Lib.hid hk
          rw [hk]
          obtain ⟨q1, eq1⟩ : ∃ b, B (NameOk (trmAt P.tm j).of 12) = b := ⟨_, rfl⟩
          have Hq1 := Lib.hid eq1
          clear eq1
          obtain ⟨q2, eq2⟩ : ∃ b, B (SpOk ⟨(trmAt P.tm j).fr, (trmAt P.tm j).to⟩) = b := ⟨_, rfl⟩
          have Hq2 := Lib.hid eq2
          clear eq2
          cases q1 with
          | false =>
            go_wp2_with fail
            (refine wp_region_onto prog_mixed (by kernel_rfl) ?_; (repeat (go_big_quiet_step ((first | (go_at_call 170; exact onto_callS (spec_l01Name_b Hq1.out _ (by omega))) | (go_at_call 171; exact onto_callX (spec_l13Span_b Hq2.out _)))))); refine onto_end ?_; intro w1 hx1)
            go_wp2_with fail
            go_ret
            exact ⟨ret_bool (B_false (fun h => by have hh := h.2.2.2 j hlt; rw [TrmOk, Hk.out] at hh; exact B_not.1 Hq1.out hh.2.1)).symm, (by repeat (first | exact Ext.refl _ | assumption | refine Ext.alloc ?_ _ | refine Ext.drew ?_ | refine Ext.drewN ?_ _ | refine Ext.setCell ?_ (by first | (simp; done) | (simp; omega) | omega) _ | refine Ext.trans ?_ (by assumption)))⟩
          | true =>
            by_cases hk0 : 0 ≤ k
            case neg =>
              have dk : decide (k < 0) = true := decide_eq_true (by omega)
              go_wp2_with fail
              (refine wp_region_onto prog_mixed (by kernel_rfl) ?_; (repeat (go_big_quiet_step ((first | (go_at_call 170; exact onto_callS (spec_l01Name_b Hq1.out _ (by omega))) | (go_at_call 171; exact onto_callX (spec_l13Span_b Hq2.out _)))))); refine onto_end ?_; intro w1 hx1)
              go_wp2_with fail
              go_ret
              exact ⟨ret_bool (B_false (fun h => by have hh := h.2.2.2 j hlt; rw [TrmOk, Hk.out] at hh; exact by have := hh.1; omega)).symm, (by repeat (first | exact Ext.refl _ | assumption | refine Ext.alloc ?_ _ | refine Ext.drew ?_ | refine Ext.drewN ?_ _ | refine Ext.setCell ?_ (by first | (simp; done) | (simp; omega) | omega) _ | refine Ext.trans ?_ (by assumption)))⟩
            have dk : decide (k < 0) = false := decide_eq_false (by omega)
            have hkl := psIx_lt (l := P.ps) (name := (trmAt P.tm j).pe) (by rw [hk]; exact hk0)
            rw [hk] at hkl
            obtain ⟨hkl, hke⟩ := hkl
            have hklt : k < (P.ps.length : Int) := by omega
            obtain ⟨bp, op, e, _, hbp, k1, k2, k3⟩ := (Hp.out.ext hx3w (Nat.le_refl _)).at_ (i := k.toNat) hkl
            subst e
            have hbpr : bp < w3.heap.size := Nat.lt_of_lt_of_le hbp hx3w.size
            have Hday := Lib.hid (fun (h1 : (trmAt P.tm j).fr ≤ (trmAt P.tm j).to) (h2 : (nspAt P.ps k.toNat).fr ≤ (trmAt P.tm j).fr) (h3 : (trmAt P.tm j).to ≤ (nspAt P.ps k.toNat).to) => show SpOk ⟨(trmAt P.tm j).fr, (trmAt P.tm j).to⟩ from by
              obtain ⟨⟨_, ⟨d1, d2⟩, ⟨d3, d4⟩, _⟩, _⟩ := Hps.out _ hkl
              exact ⟨⟨by show (0:Int) ≤ (trmAt P.tm j).fr; omega, by show (trmAt P.tm j).fr ≤ 730499; omega⟩, ⟨by show (0:Int) ≤ (trmAt P.tm j).to; omega, by show (trmAt P.tm j).to ≤ 730499; omega⟩, h1⟩)
            cases q2 with
            | false =>
              go_wp2_with fail
              (refine wp_region_onto prog_mixed (by kernel_rfl) ?_; (repeat (go_big_quiet_step ((first | (go_at_call 170; exact onto_callS (spec_l01Name_b Hq1.out _ (by omega))) | (go_at_call 171; exact onto_callX (spec_l13Span_b Hq2.out _)))))); refine onto_end ?_; intro w1 hx1)
              go_wp2_with fail
              go_ret
              exact ⟨ret_bool (B_false (fun h => by have hh := h.2.2.2 j hlt; rw [TrmOk, Hk.out] at hh; exact B_not.1 Hq2.out (Hday.out hh.2.2.1 hh.2.2.2.1 hh.2.2.2.2))).symm, (by repeat (first | exact Ext.refl _ | assumption | refine Ext.alloc ?_ _ | refine Ext.drew ?_ | refine Ext.drewN ?_ _ | refine Ext.setCell ?_ (by first | (simp; done) | (simp; omega) | omega) _ | refine Ext.trans ?_ (by assumption)))⟩
            | true =>
              have h5 : (trmAt P.tm j).fr ≤ (trmAt P.tm j).to := (B_iff.1 Hq2.out).2.2
              by_cases h6 : (nspAt P.ps k.toNat).fr ≤ (trmAt P.tm j).fr
              case neg =>
                have d6 : decide ((trmAt P.tm j).fr < (nspAt P.ps k.toNat).fr) = true := decide_eq_true (by omega)
                go_wp2_with fail
                (refine wp_region_onto prog_mixed (by kernel_rfl) ?_; (repeat (go_big_quiet_step ((first | (go_at_call 170; exact onto_callS (spec_l01Name_b Hq1.out _ (by omega))) | (go_at_call 171; exact onto_callX (spec_l13Span_b Hq2.out _)))))); refine onto_end ?_; intro w1 hx1)
                go_wp2_with fail
                go_ret
                exact ⟨ret_bool (B_false (fun h => by have hh := h.2.2.2 j hlt; rw [TrmOk, Hk.out] at hh; exact by have := hh.2.2.2.1; omega)).symm, (by repeat (first | exact Ext.refl _ | assumption | refine Ext.alloc ?_ _ | refine Ext.drew ?_ | refine Ext.drewN ?_ _ | refine Ext.setCell ?_ (by first | (simp; done) | (simp; omega) | omega) _ | refine Ext.trans ?_ (by assumption)))⟩
              have d6 : decide ((trmAt P.tm j).fr < (nspAt P.ps k.toNat).fr) = false := decide_eq_false (by omega)
              by_cases h7 : (trmAt P.tm j).to ≤ (nspAt P.ps k.toNat).to
              case neg =>
                have d7 : decide ((nspAt P.ps k.toNat).to < (trmAt P.tm j).to) = true := decide_eq_true (by omega)
                go_wp2_with fail
                (refine wp_region_onto prog_mixed (by kernel_rfl) ?_; (repeat (go_big_quiet_step ((first | (go_at_call 170; exact onto_callS (spec_l01Name_b Hq1.out _ (by omega))) | (go_at_call 171; exact onto_callX (spec_l13Span_b Hq2.out _)))))); refine onto_end ?_; intro w1 hx1)
                go_wp2_with fail
                go_ret
                exact ⟨ret_bool (B_false (fun h => by have hh := h.2.2.2 j hlt; rw [TrmOk, Hk.out] at hh; exact by have := hh.2.2.2.2; omega)).symm, (by repeat (first | exact Ext.refl _ | assumption | refine Ext.alloc ?_ _ | refine Ext.drew ?_ | refine Ext.drewN ?_ _ | refine Ext.setCell ?_ (by first | (simp; done) | (simp; omega) | omega) _ | refine Ext.trans ?_ (by assumption)))⟩
              have d7 : decide ((nspAt P.ps k.toNat).to < (trmAt P.tm j).to) = false := decide_eq_false (by omega)
              have Hn := Lib.hid (show TrmOk P.ps (trmAt P.tm j) from by rw [TrmOk, Hk.out]; exact ⟨hk0, B_iff.1 Hq1.out, h5, h6, h7⟩)
              go_wp2_with fail
              (refine wp_region_onto prog_mixed (by kernel_rfl) ?_; (repeat (go_big_quiet_step ((first | (go_at_call 170; exact onto_callS (spec_l01Name_b Hq1.out _ (by omega))) | (go_at_call 171; exact onto_callX (spec_l13Span_b Hq2.out _)))))); refine onto_end ?_; intro w1 hx1)
              go_wp2_with fail
              go_roundg (P.tm.length - (j + 1))
              case measure => omega
              case rel => exact ⟨j + 1, by omega, by go_num, (hxz.trans hxr3).trans (by repeat (first | exact Ext.refl _ | assumption | refine Ext.alloc ?_ _ | refine Ext.drew ?_ | refine Ext.drewN ?_ _ | refine Ext.setCell ?_ (by first | (simp; done) | (simp; omega) | omega) _ | refine Ext.trans ?_ (by assumption))), fun i hi => by
                by_cases e : i = j
                · rw [e]; exact Hn.out
                · exact Htm.out i (by omega)⟩
        · obtain rfl : j = P.tm.length := by omega
          have hji : ¬ (P.tm.length : Int) < (P.tm.length : Int) := by omega
          clear hlt
          by_cases hl1 : P.ps.length ≤ 40
          case neg =>
            have d1 : decide ((P.ps.length : Int) ≤ 40) = false := decide_eq_false (by omega)
            go_wp2_with fail
            go_ret
            exact ⟨ret_bool (B_false (fun h => by have := h.1; omega)).symm, (by repeat (first | exact Ext.refl _ | assumption | refine Ext.alloc ?_ _ | refine Ext.drew ?_ | refine Ext.drewN ?_ _ | refine Ext.setCell ?_ (by first | (simp; done) | (simp; omega) | omega) _ | refine Ext.trans ?_ (by assumption)))⟩
          have d1 : decide ((P.ps.length : Int) ≤ 40) = true := decide_eq_true (by omega)
          by_cases hl2 : P.tm.length ≤ 60
          case neg =>
            have d2 : decide ((P.tm.length : Int) ≤ 60) = false := decide_eq_false (by omega)
            go_wp2_with fail
            go_ret
            exact ⟨ret_bool (B_false (fun h => by have := h.2.1; omega)).symm, (by repeat (first | exact Ext.refl _ | assumption | refine Ext.alloc ?_ _ | refine Ext.drew ?_ | refine Ext.drewN ?_ _ | refine Ext.setCell ?_ (by first | (simp; done) | (simp; omega) | omega) _ | refine Ext.trans ?_ (by assumption)))⟩
          have d2 : decide ((P.tm.length : Int) ≤ 60) = true := decide_eq_true (by omega)
          go_wp2_with fail
          go_ret
          exact ⟨ret_bool (B_true ⟨hl1, hl2, Hps.out, Htm.out⟩).symm, (by repeat (first | exact Ext.refl _ | assumption | refine Ext.alloc ?_ _ | refine Ext.drew ?_ | refine Ext.drewN ?_ _ | refine Ext.setCell ?_ (by first | (simp; done) | (simp; omega) | omega) _ | refine Ext.trans ?_ (by assumption)))⟩
end Go.Proofs.YtmmokjnljaifcaaGreatDoor

/- Contracts: months and days, feasts, styles, kinds: the small functions of both sides. -/
namespace Go.Proofs.YtmmokjnljaifcaaGreatDoor
set_option linter.unusedVariables false
set_option linter.unusedSimpArgs false
open Go.RowKit
attribute [local go_sem] cell_onto

set_option maxHeartbeats 400000 in
theorem impl_isLeap (y : Int) (w : World) : Calls Tryz.prog 382 #[.int .i64 y, .bool false] w (RetS (.bool (decide (y.tmod 4 = 0))) w) := by
  by_cases h : y.tmod 4 = 0
  · have d1 : (y.tmod 4 == 0) = true := by simpa using h
    have d2 : decide (y.tmod 4 = 0) = true := decide_eq_true h
    go_enter Tryz.func382, Tryz.ntmps382
    go_wp2_with fail
    all_goals (go_ret; exact ⟨by simp [h], rfl⟩)
  · have d1 : (y.tmod 4 == 0) = false := by simpa using h
    have d2 : decide (y.tmod 4 = 0) = false := decide_eq_false h
    go_enter Tryz.func382, Tryz.ntmps382
    go_wp2_with fail
    all_goals (go_ret; exact ⟨by simp [h], rfl⟩)
set_option maxHeartbeats 400000 in
theorem spec_l01Leap (y : Int) (w : World) : Calls Tryz.prog 364 #[.int .i64 y, .bool false] w (RetS (.bool (decide (y.tmod 4 = 0))) w) := by
  by_cases h : y.tmod 4 = 0
  · have d1 : (y.tmod 4 == 0) = true := by simpa using h
    have d2 : decide (y.tmod 4 = 0) = true := decide_eq_true h
    go_enter Tryz.func364, Tryz.ntmps364
    go_wp2_with fail
    all_goals (go_ret; exact ⟨by simp [h], rfl⟩)
  · have d1 : (y.tmod 4 == 0) = false := by simpa using h
    have d2 : decide (y.tmod 4 = 0) = false := decide_eq_false h
    go_enter Tryz.func364, Tryz.ntmps364
    go_wp2_with fail
    all_goals (go_ret; exact ⟨by simp [h], rfl⟩)
theorem impl_isLeap_b {y : Int} {b : Bool} (hb : decide (y.tmod 4 = 0) = b) (w : World) : Calls Tryz.prog 382 #[.int .i64 y, .bool false] w (RetS (.bool b) w) := by
  subst hb; exact impl_isLeap y w
theorem spec_l01Leap_b {y : Int} {b : Bool} (hb : decide (y.tmod 4 = 0) = b) (w : World) : Calls Tryz.prog 364 #[.int .i64 y, .bool false] w (RetS (.bool b) w) := by
  subst hb; exact spec_l01Leap y w
set_option maxHeartbeats 1000000 in
theorem impl_lengthOfMonth (y mo : Int) (w : World) : Calls Tryz.prog 355 #[.int .i64 y, .int .i64 mo, .bool false] w (RetS (.int .i64 (lenO y mo)) w) := by
  by_cases h2 : mo = 2
  · subst h2
    obtain ⟨q, eq⟩ : ∃ b, decide (y.tmod 4 = 0) = b := ⟨_, rfl⟩
    have Hq := Lib.hid eq
    clear eq
    go_enter Tryz.func355, Tryz.ntmps355
    go_wp2_with fail
    refine Calls.mono (impl_isLeap_b Hq.out _) ?_
    rintro e w' ⟨rfl, rfl⟩
    cases q with
    | false => go_wp2_with fail; go_ret; exact ⟨ret_int (lenO_2n (of_decide_eq_false Hq.out)).symm, rfl⟩
    | true => go_wp2_with fail; go_ret; exact ⟨ret_int (lenO_2y (of_decide_eq_true Hq.out)).symm, rfl⟩
  · by_cases h : mo = 4 ∨ mo = 6 ∨ mo = 9 ∨ mo = 11
    · have E := Lib.hid (lenO_30 (y := y) h)
      rcases h with rfl | rfl | rfl | rfl
      all_goals (go_enter Tryz.func355, Tryz.ntmps355; go_wp2_with fail; go_ret; exact ⟨ret_int E.out.symm, rfl⟩)
    · have E := Lib.hid (lenO_31 (y := y) h2 h)
      have d2 : (mo == 2) = false := by simpa using h2
      have d4 : (mo == 4) = false := by simp; omega
      have d6 : (mo == 6) = false := by simp; omega
      have d9 : (mo == 9) = false := by simp; omega
      have d11 : (mo == 11) = false := by simp; omega
      have g2 : decide (mo = 2) = false := decide_eq_false (by omega)
      have g4 : decide (mo = 4) = false := decide_eq_false (by omega)
      have g6 : decide (mo = 6) = false := decide_eq_false (by omega)
      have g9 : decide (mo = 9) = false := decide_eq_false (by omega)
      have g11 : decide (mo = 11) = false := decide_eq_false (by omega)
      clear h2 h
      go_enter Tryz.func355, Tryz.ntmps355
      go_wp2_with fail
      go_ret
      exact ⟨ret_int E.out.symm, rfl⟩
set_option maxHeartbeats 1000000 in
theorem spec_l01Length (y mo : Int) (w : World) : Calls Tryz.prog 365 #[.int .i64 y, .int .i64 mo, .bool false] w (RetS (.int .i64 (lenO y mo)) w) := by
  by_cases h2 : mo = 2
  · subst h2
    obtain ⟨q, eq⟩ : ∃ b, decide (y.tmod 4 = 0) = b := ⟨_, rfl⟩
    have Hq := Lib.hid eq
    clear eq
    go_enter Tryz.func365, Tryz.ntmps365
    go_wp2_with fail
    refine Calls.mono (spec_l01Leap_b Hq.out _) ?_
    rintro e w' ⟨rfl, rfl⟩
    cases q with
    | false => go_wp2_with fail; go_ret; exact ⟨ret_int (lenO_2n (of_decide_eq_false Hq.out)).symm, rfl⟩
    | true => go_wp2_with fail; go_ret; exact ⟨ret_int (lenO_2y (of_decide_eq_true Hq.out)).symm, rfl⟩
  · by_cases h : mo = 4 ∨ mo = 6 ∨ mo = 9 ∨ mo = 11
    · have E := Lib.hid (lenO_30 (y := y) h)
      rcases h with rfl | rfl | rfl | rfl
      all_goals (go_enter Tryz.func365, Tryz.ntmps365; go_wp2_with fail; go_ret; exact ⟨ret_int E.out.symm, rfl⟩)
    · have E := Lib.hid (lenO_31 (y := y) h2 h)
      have d2 : (mo == 2) = false := by simpa using h2
      have d4 : (mo == 4) = false := by simp; omega
      have d6 : (mo == 6) = false := by simp; omega
      have d9 : (mo == 9) = false := by simp; omega
      have d11 : (mo == 11) = false := by simp; omega
      have g2 : decide (mo = 2) = false := decide_eq_false (by omega)
      have g4 : decide (mo = 4) = false := decide_eq_false (by omega)
      have g6 : decide (mo = 6) = false := decide_eq_false (by omega)
      have g9 : decide (mo = 9) = false := decide_eq_false (by omega)
      have g11 : decide (mo = 11) = false := decide_eq_false (by omega)
      clear h2 h
      go_enter Tryz.func365, Tryz.ntmps365
      go_wp2_with fail
      go_ret
      exact ⟨ret_int E.out.symm, rfl⟩
theorem impl_within_q {n lo hi : Int} {b : Bool} (hb : B (lo ≤ n ∧ n ≤ hi) = b) (w : World) : Calls Tryz.prog 119 #[.int .i64 n, .int .i64 lo, .int .i64 hi] w (RetS (.bool b) w) := by
  subst hb; exact impl_within n lo hi w
theorem spec_l01In_q {n lo hi : Int} {b : Bool} (hb : B (lo ≤ n ∧ n ≤ hi) = b) (w : World) : Calls Tryz.prog 122 #[.int .i64 n, .int .i64 lo, .int .i64 hi] w (RetS (.bool b) w) := by
  subst hb; exact spec_l01In n lo hi w
set_option maxHeartbeats 1000000 in
theorem impl_isDate (y mo d : Int) (w : World) : Calls Tryz.prog 369 #[.agg #[.int .i64 y, .int .i64 mo, .int .i64 d], .bool false] w (RetX (.bool (B (OldOk y mo d))) w) := by
  obtain ⟨q1, e1⟩ : ∃ b, B (1 ≤ y ∧ y ≤ 2000) = b := ⟨_, rfl⟩
  obtain ⟨q2, e2⟩ : ∃ b, B (1 ≤ mo ∧ mo ≤ 12) = b := ⟨_, rfl⟩
  obtain ⟨q3, e3⟩ : ∃ b, B (1 ≤ d ∧ d ≤ lenO y mo) = b := ⟨_, rfl⟩
  have Hq1 := Lib.hid e1
  have Hq2 := Lib.hid e2
  have Hq3 := Lib.hid e3
  clear e1 e2 e3
  cases q1
  case false =>
    go_enter Tryz.func369, Tryz.ntmps369
    go_wp2_with fail
    (refine wp_region_onto prog_mixed (by kernel_rfl) ?_; (repeat (go_big_quiet_step (((go_at_call 119; with_reducible exact onto_callS (impl_within_q Hq1.out _)))))); refine onto_end ?_; intro w1 hx1)
    go_wp2_with fail
    go_ret
    exact ⟨ret_bool (B_false (fun h => B_not.1 Hq1.out h.1)).symm, (by repeat (first | exact Ext.refl _ | assumption | refine Ext.alloc ?_ _ | refine Ext.drew ?_ | refine Ext.drewN ?_ _ | refine Ext.setCell ?_ (by first | (simp; done) | (simp; omega) | omega) _ | refine Ext.trans ?_ (by assumption)))⟩
  cases q2
  case false =>
    go_enter Tryz.func369, Tryz.ntmps369
    go_wp2_with fail
    (refine wp_region_onto prog_mixed (by kernel_rfl) ?_; (repeat (go_big_quiet_step ((first | (go_at_call 119; with_reducible exact onto_callS (impl_within_q Hq1.out _)) | (go_at_call 119; with_reducible exact onto_callS (impl_within_q Hq2.out _)))))); refine onto_end ?_; intro w1 hx1)
    go_wp2_with fail
    go_ret
    exact ⟨ret_bool (B_false (fun h => B_not.1 Hq2.out h.2.1)).symm, (by repeat (first | exact Ext.refl _ | assumption | refine Ext.alloc ?_ _ | refine Ext.drew ?_ | refine Ext.drewN ?_ _ | refine Ext.setCell ?_ (by first | (simp; done) | (simp; omega) | omega) _ | refine Ext.trans ?_ (by assumption)))⟩
  cases q3
  case false =>
    go_enter Tryz.func369, Tryz.ntmps369
    go_wp2_with fail
    (refine wp_region_onto prog_mixed (by kernel_rfl) ?_; (repeat (go_big_quiet_step ((first | (go_at_call 355; with_reducible exact onto_callS (impl_lengthOfMonth y mo _)) | (go_at_call 119; with_reducible exact onto_callS (impl_within_q Hq1.out _)) | (go_at_call 119; with_reducible exact onto_callS (impl_within_q Hq2.out _)) | (go_at_call 119; with_reducible exact onto_callS (impl_within_q Hq3.out _)))))); refine onto_end ?_; intro w1 hx1)
    go_wp2_with fail
    go_ret
    exact ⟨ret_bool (B_false (fun h => B_not.1 Hq3.out h.2.2)).symm, (by repeat (first | exact Ext.refl _ | assumption | refine Ext.alloc ?_ _ | refine Ext.drew ?_ | refine Ext.drewN ?_ _ | refine Ext.setCell ?_ (by first | (simp; done) | (simp; omega) | omega) _ | refine Ext.trans ?_ (by assumption)))⟩
  go_enter Tryz.func369, Tryz.ntmps369
  go_wp2_with fail
  (refine wp_region_onto prog_mixed (by kernel_rfl) ?_; (repeat (go_big_quiet_step ((first | (go_at_call 355; with_reducible exact onto_callS (impl_lengthOfMonth y mo _)) | (go_at_call 119; with_reducible exact onto_callS (impl_within_q Hq1.out _)) | (go_at_call 119; with_reducible exact onto_callS (impl_within_q Hq2.out _)) | (go_at_call 119; with_reducible exact onto_callS (impl_within_q Hq3.out _)))))); refine onto_end ?_; intro w1 hx1)
  go_wp2_with fail
  go_ret
  exact ⟨ret_bool (B_true ⟨B_iff.1 Hq1.out, B_iff.1 Hq2.out, B_iff.1 Hq3.out⟩).symm, (by repeat (first | exact Ext.refl _ | assumption | refine Ext.alloc ?_ _ | refine Ext.drew ?_ | refine Ext.drewN ?_ _ | refine Ext.setCell ?_ (by first | (simp; done) | (simp; omega) | omega) _ | refine Ext.trans ?_ (by assumption)))⟩
set_option maxHeartbeats 1000000 in
theorem spec_l01Valid (y mo d : Int) (w : World) : Calls Tryz.prog 350 #[.agg #[.int .i64 y, .int .i64 mo, .int .i64 d], .bool false] w (RetX (.bool (B (OldOk y mo d))) w) := by
  obtain ⟨q1, e1⟩ : ∃ b, B (1 ≤ y ∧ y ≤ 2000) = b := ⟨_, rfl⟩
  obtain ⟨q2, e2⟩ : ∃ b, B (1 ≤ mo ∧ mo ≤ 12) = b := ⟨_, rfl⟩
  obtain ⟨q3, e3⟩ : ∃ b, B (1 ≤ d ∧ d ≤ lenO y mo) = b := ⟨_, rfl⟩
  have Hq1 := Lib.hid e1
  have Hq2 := Lib.hid e2
  have Hq3 := Lib.hid e3
  clear e1 e2 e3
  cases q1
  case false =>
    go_enter Tryz.func350, Tryz.ntmps350
    go_wp2_with fail
    (refine wp_region_onto prog_mixed (by kernel_rfl) ?_; (repeat (go_big_quiet_step (((go_at_call 122; with_reducible exact onto_callS (spec_l01In_q Hq1.out _)))))); refine onto_end ?_; intro w1 hx1)
    go_wp2_with fail
    go_ret
    exact ⟨ret_bool (B_false (fun h => B_not.1 Hq1.out h.1)).symm, (by repeat (first | exact Ext.refl _ | assumption | refine Ext.alloc ?_ _ | refine Ext.drew ?_ | refine Ext.drewN ?_ _ | refine Ext.setCell ?_ (by first | (simp; done) | (simp; omega) | omega) _ | refine Ext.trans ?_ (by assumption)))⟩
  cases q2
  case false =>
    go_enter Tryz.func350, Tryz.ntmps350
    go_wp2_with fail
    (refine wp_region_onto prog_mixed (by kernel_rfl) ?_; (repeat (go_big_quiet_step ((first | (go_at_call 122; with_reducible exact onto_callS (spec_l01In_q Hq1.out _)) | (go_at_call 122; with_reducible exact onto_callS (spec_l01In_q Hq2.out _)))))); refine onto_end ?_; intro w1 hx1)
    go_wp2_with fail
    go_ret
    exact ⟨ret_bool (B_false (fun h => B_not.1 Hq2.out h.2.1)).symm, (by repeat (first | exact Ext.refl _ | assumption | refine Ext.alloc ?_ _ | refine Ext.drew ?_ | refine Ext.drewN ?_ _ | refine Ext.setCell ?_ (by first | (simp; done) | (simp; omega) | omega) _ | refine Ext.trans ?_ (by assumption)))⟩
  cases q3
  case false =>
    go_enter Tryz.func350, Tryz.ntmps350
    go_wp2_with fail
    (refine wp_region_onto prog_mixed (by kernel_rfl) ?_; (repeat (go_big_quiet_step ((first | (go_at_call 365; with_reducible exact onto_callS (spec_l01Length y mo _)) | (go_at_call 122; with_reducible exact onto_callS (spec_l01In_q Hq1.out _)) | (go_at_call 122; with_reducible exact onto_callS (spec_l01In_q Hq2.out _)) | (go_at_call 122; with_reducible exact onto_callS (spec_l01In_q Hq3.out _)))))); refine onto_end ?_; intro w1 hx1)
    go_wp2_with fail
    go_ret
    exact ⟨ret_bool (B_false (fun h => B_not.1 Hq3.out h.2.2)).symm, (by repeat (first | exact Ext.refl _ | assumption | refine Ext.alloc ?_ _ | refine Ext.drew ?_ | refine Ext.drewN ?_ _ | refine Ext.setCell ?_ (by first | (simp; done) | (simp; omega) | omega) _ | refine Ext.trans ?_ (by assumption)))⟩
  go_enter Tryz.func350, Tryz.ntmps350
  go_wp2_with fail
  (refine wp_region_onto prog_mixed (by kernel_rfl) ?_; (repeat (go_big_quiet_step ((first | (go_at_call 365; with_reducible exact onto_callS (spec_l01Length y mo _)) | (go_at_call 122; with_reducible exact onto_callS (spec_l01In_q Hq1.out _)) | (go_at_call 122; with_reducible exact onto_callS (spec_l01In_q Hq2.out _)) | (go_at_call 122; with_reducible exact onto_callS (spec_l01In_q Hq3.out _)))))); refine onto_end ?_; intro w1 hx1)
  go_wp2_with fail
  go_ret
  exact ⟨ret_bool (B_true ⟨B_iff.1 Hq1.out, B_iff.1 Hq2.out, B_iff.1 Hq3.out⟩).symm, (by repeat (first | exact Ext.refl _ | assumption | refine Ext.alloc ?_ _ | refine Ext.drew ?_ | refine Ext.drewN ?_ _ | refine Ext.setCell ?_ (by first | (simp; done) | (simp; omega) | omega) _ | refine Ext.trans ?_ (by assumption)))⟩
set_option maxHeartbeats 1000000 in
theorem impl_IsOldDate (y mo d : Int) (w : World) : Calls Tryz.prog 345 #[.agg #[.int .i64 y, .int .i64 mo, .int .i64 d]] w (RetX (.bool (B (OldOk y mo d))) w) := by
  go_enter Tryz.func345, Tryz.ntmps345
  go_wp2_with fail
  refine Calls.mono (impl_isDate y mo d _) ?_
  rintro e w1 ⟨rfl, hx1⟩
  go_wp2_with fail
  go_ret
  exact ⟨rfl, (by repeat (first | exact Ext.refl _ | assumption | refine Ext.alloc ?_ _ | refine Ext.drew ?_ | refine Ext.drewN ?_ _ | refine Ext.setCell ?_ (by first | (simp; done) | (simp; omega) | omega) _ | refine Ext.trans ?_ (by assumption)))⟩
set_option maxHeartbeats 1000000 in
theorem spec_IsOldDate (y mo d : Int) (w : World) : Calls Tryz.prog 317 #[.agg #[.int .i64 y, .int .i64 mo, .int .i64 d]] w (RetX (.bool (B (OldOk y mo d))) w) := by
  go_enter Tryz.func317, Tryz.ntmps317
  go_wp2_with fail
  refine Calls.mono (spec_l01Valid y mo d _) ?_
  rintro e w1 ⟨rfl, hx1⟩
  go_wp2_with fail
  go_ret
  exact ⟨rfl, (by repeat (first | exact Ext.refl _ | assumption | refine Ext.alloc ?_ _ | refine Ext.drew ?_ | refine Ext.drewN ?_ _ | refine Ext.setCell ?_ (by first | (simp; done) | (simp; omega) | omega) _ | refine Ext.trans ?_ (by assumption)))⟩
set_option maxHeartbeats 1000000 in
theorem impl_isMonthDay (mo d : Int) (w : World) : Calls Tryz.prog 306 #[.int .i64 mo, .int .i64 d] w (RetX (.bool (B (MdOk mo d))) w) := by
  have E := Lib.hid (B_congr (old4 mo d))
  go_enter Tryz.func306, Tryz.ntmps306
  go_wp2_with fail
  refine Calls.mono (impl_IsOldDate 4 mo d _) ?_
  rintro e w1 ⟨rfl, hx1⟩
  rw [E.out]
  go_wp2_with fail
  go_ret
  exact ⟨rfl, (by repeat (first | exact Ext.refl _ | assumption | refine Ext.alloc ?_ _ | refine Ext.drew ?_ | refine Ext.drewN ?_ _ | refine Ext.setCell ?_ (by first | (simp; done) | (simp; omega) | omega) _ | refine Ext.trans ?_ (by assumption)))⟩
/-! ### ranges -/
set_option maxHeartbeats 400000 in
theorem impl_isFeast (x : Int) (w : World) : Calls Tryz.prog 346 #[.int .i64 x] w (RetS (.bool (B (0 ≤ x ∧ x ≤ 19))) w) := by
  go_enter Tryz.func346, Tryz.ntmps346
  go_wp2_with (go_at_call 119; refine (impl_within _ _ _ _).mono ?_; rintro e w' ⟨rfl, rfl⟩)
  go_ret
  exact ⟨rfl, rfl⟩
set_option maxHeartbeats 400000 in
theorem spec_l05Feast (x : Int) (w : World) : Calls Tryz.prog 318 #[.int .i64 x] w (RetS (.bool (B (0 ≤ x ∧ x ≤ 19))) w) := by
  go_enter Tryz.func318, Tryz.ntmps318
  go_wp2_with (go_at_call 122; refine (spec_l01In _ _ _ _).mono ?_; rintro e w' ⟨rfl, rfl⟩)
  go_ret
  exact ⟨rfl, rfl⟩
set_option maxHeartbeats 400000 in
theorem impl_isStyle (x : Int) (w : World) : Calls Tryz.prog 309 #[.int .i64 x] w (RetS (.bool (B (0 ≤ x ∧ x ≤ 6))) w) := by
  go_enter Tryz.func309, Tryz.ntmps309
  go_wp2_with (go_at_call 119; refine (impl_within _ _ _ _).mono ?_; rintro e w' ⟨rfl, rfl⟩)
  go_ret
  exact ⟨rfl, rfl⟩
set_option maxHeartbeats 400000 in
theorem spec_l06Style (x : Int) (w : World) : Calls Tryz.prog 321 #[.int .i64 x] w (RetS (.bool (B (0 ≤ x ∧ x ≤ 6))) w) := by
  go_enter Tryz.func321, Tryz.ntmps321
  go_wp2_with (go_at_call 122; refine (spec_l01In _ _ _ _).mono ?_; rintro e w' ⟨rfl, rfl⟩)
  go_ret
  exact ⟨rfl, rfl⟩
set_option maxHeartbeats 400000 in
theorem impl_isStyleYear (x : Int) (w : World) : Calls Tryz.prog 308 #[.int .i64 x] w (RetS (.bool (B (2 ≤ x ∧ x ≤ 1999))) w) := by
  go_enter Tryz.func308, Tryz.ntmps308
  go_wp2_with (go_at_call 119; refine (impl_within _ _ _ _).mono ?_; rintro e w' ⟨rfl, rfl⟩)
  go_ret
  exact ⟨rfl, rfl⟩
set_option maxHeartbeats 400000 in
theorem spec_l06Year (x : Int) (w : World) : Calls Tryz.prog 320 #[.int .i64 x] w (RetS (.bool (B (2 ≤ x ∧ x ≤ 1999))) w) := by
  go_enter Tryz.func320, Tryz.ntmps320
  go_wp2_with (go_at_call 122; refine (spec_l01In _ _ _ _).mono ?_; rintro e w' ⟨rfl, rfl⟩)
  go_ret
  exact ⟨rfl, rfl⟩
set_option maxHeartbeats 400000 in
theorem impl_isKind (x : Int) (w : World) : Calls Tryz.prog 310 #[.int .i64 x] w (RetS (.bool (B (0 ≤ x ∧ x ≤ 2))) w) := by
  go_enter Tryz.func310, Tryz.ntmps310
  go_wp2_with (go_at_call 119; refine (impl_within _ _ _ _).mono ?_; rintro e w' ⟨rfl, rfl⟩)
  go_ret
  exact ⟨rfl, rfl⟩
set_option maxHeartbeats 400000 in
theorem spec_l08Kind (x : Int) (w : World) : Calls Tryz.prog 322 #[.int .i64 x] w (RetS (.bool (B (0 ≤ x ∧ x ≤ 2))) w) := by
  go_enter Tryz.func322, Tryz.ntmps322
  go_wp2_with (go_at_call 122; refine (spec_l01In _ _ _ _).mono ?_; rintro e w' ⟨rfl, rfl⟩)
  go_ret
  exact ⟨rfl, rfl⟩
set_option maxHeartbeats 1000000 in
theorem impl_isRelation (fe re wd : Int) (w : World) : Calls Tryz.prog 307 #[.int .i64 fe, .int .i64 re, .int .i64 wd] w (RetX (.bool (B (RelOk fe re wd))) w) := by
  go_enter Tryz.func307, Tryz.ntmps307
  go_wp2_with (first | (go_at_call 346; refine (impl_isFeast _ _).mono ?_; rintro e w' ⟨rfl, rfl⟩) | (go_at_call 119; refine (impl_within _ _ _ _).mono ?_; rintro e w' ⟨rfl, rfl⟩))
  all_goals (go_ret; refine ⟨ret_bool (B_eq ?_), (by repeat (first | exact Ext.refl _ | assumption | refine Ext.alloc ?_ _ | refine Ext.drew ?_ | refine Ext.drewN ?_ _ | refine Ext.setCell ?_ (by first | (simp; done) | (simp; omega) | omega) _ | refine Ext.trans ?_ (by assumption)))⟩; (try simp only [Bool.and_eq_true, Bool.or_eq_true, B_iff, B_not, Bool.not_eq_true, Bool.not_eq_false', Bool.not_eq_true', Bool.not_not, decide_eq_true_eq, decide_eq_false_iff_not, Bool.true_eq_false, Bool.false_eq_true, iff_true, iff_false, true_iff, false_iff, beq_iff_eq, bne_iff_ne, ne_eq] at *); (try unfold RelOk at *); (try dsimp only at *); omega)
def RelS (re wd : Int) : Prop := (0 ≤ re ∧ re ≤ 4) ∧ (0 ≤ wd ∧ wd ≤ 6) ∧ (3 ≤ re ∨ wd = 0)
set_option maxHeartbeats 1000000 in
theorem spec_l05Relation (re wd : Int) (w : World) : Calls Tryz.prog 319 #[.int .i64 re, .int .i64 wd] w (RetX (.bool (B (RelS re wd))) w) := by
  go_enter Tryz.func319, Tryz.ntmps319
  go_wp2_with (go_at_call 122; refine (spec_l01In _ _ _ _).mono ?_; rintro e w' ⟨rfl, rfl⟩)
  all_goals (go_ret; refine ⟨ret_bool (B_eq ?_), (by repeat (first | exact Ext.refl _ | assumption | refine Ext.alloc ?_ _ | refine Ext.drew ?_ | refine Ext.drewN ?_ _ | refine Ext.setCell ?_ (by first | (simp; done) | (simp; omega) | omega) _ | refine Ext.trans ?_ (by assumption)))⟩; (try simp only [Bool.and_eq_true, Bool.or_eq_true, B_iff, B_not, Bool.not_eq_true, Bool.not_eq_false', Bool.not_eq_true', Bool.not_not, decide_eq_true_eq, decide_eq_false_iff_not, Bool.true_eq_false, Bool.false_eq_true, iff_true, iff_false, true_iff, false_iff, beq_iff_eq, bne_iff_ne, ne_eq] at *); (try unfold RelS at *); (try dsimp only at *); omega)
end Go.Proofs.YtmmokjnljaifcaaGreatDoor

/- Contracts: places and ways; IsLand, the program's. (Printed by genKe.py.) -/
namespace Go.Proofs.YtmmokjnljaifcaaGreatDoor
set_option linter.unusedVariables false
set_option linter.unusedSimpArgs false
open Go.RowKit
attribute [local go_sem] cell_onto

theorem impl_within_k {n lo hi : Int} {b : Bool} (hb : B (lo ≤ n ∧ n ≤ hi) = b) (w : World) : Calls Tryz.prog 119 #[.int .i64 n, .int .i64 lo, .int .i64 hi] w (RetS (.bool b) w) := by
  subst hb; exact impl_within n lo hi w
/-- the first places of a row -/
theorem Strs.take {w : World} {lo hi : Nat} {b off : Nat} {c j : Nat} {l : List ByteArray} (h : Strs w lo hi (.slice (some ⟨b, off, none⟩) l.length c) l) (hj : j ≤ l.length) : Strs w lo hi (.slice (some ⟨b, off, none⟩) j c) (l.take j) := by
  obtain ⟨hm, A', c', e, hc, hr⟩ := h
  injection e with e1 e2 e3
  subst e3
  have hlen : (l.take j).length = j := by rw [List.length_take]; omega
  unfold Strs
  rw [hlen]
  refine ⟨by omega, some ⟨b, off, none⟩, c, rfl, by omega, fun h0 => ?_⟩
  obtain ⟨b', off', hA, h1, h2, h3⟩ := hr (by omega)
  rw [← e1] at hA
  injection hA with hA
  injection hA with hA hO
  subst hA hO
  refine ⟨b, off, rfl, h1, h2, fun i hi => ?_⟩
  rw [h3 i (by omega)]
  unfold strCell strAt
  rw [List.getD_eq_getElem?_getD, List.getD_eq_getElem?_getD, List.getElem?_take, if_pos (by omega)]
theorem dup_iff {l : List ByteArray} {j : Nat} (hj : j ≤ l.length) : 0 ≤ fstIx (fun i => strAt (l.take j) i = strAt l j) (l.take j).length ↔ ¬ ∀ k, k < j → strAt l k ≠ strAt l j := by
  have hlen : (l.take j).length = j := by rw [List.length_take]; omega
  rw [hlen]
  have hc : fstIx (fun i => strAt (l.take j) i = strAt l j) j = fstIx (fun i => strAt l i = strAt l j) j := fstIx_congr j (fun i hi => by
    have e : strAt (l.take j) i = strAt l i := by
      unfold strAt
      rw [List.getD_eq_getElem?_getD, List.getD_eq_getElem?_getD, List.getElem?_take, if_pos hi]
    rw [e])
  rw [hc]
  rcases fstIx_cases (fun i => strAt l i = strAt l j) j with ⟨h1, h2⟩ | ⟨k, h1, h2, h3, h4⟩
  · rw [h1]
    exact ⟨fun h => by omega, fun h => absurd (fun k hk => h2 k hk) h⟩
  · rw [h2]
    exact ⟨fun _ h => h k h1 h3, fun _ => by omega⟩

set_option maxHeartbeats 400000 in
theorem indexFunc_ways (v : Value) (l : List Wy) (g : Nat) (caps : Array Value) (p : Nat → Prop) (w : World) (h : Wys w 0 w.heap.size v l)
    (hg : ∀ (args : Array Value) (w : World), (callFunc g args).run Tryz.prog w = .ok (.enter g args) w)
    (hf : ∀ (i : Nat) (w' : World), i < l.length → Ext w w' → Calls Tryz.prog g (#[.agg #[.int .i64 (wyAt l i).a, .int .i64 (wyAt l i).b, .int .i64 (wyAt l i).d]] ++ caps) w' (RetX (.bool (B (p i))) w')) :
    Calls Tryz.prog 313 #[v, .func (.func g) #[] caps] w (RetIdx l.length p w) := by
  obtain ⟨A, c, rfl, hn, hc⟩ := h.len
  have H := Lib.hid h
  have Hf := Lib.hid hf
  clear h hf
  go_enter Tryz.func313, Tryz.ntmps313
  go_wp2_with fail
  go_loopg [8] l.length (fun k i wr => ∃ j : Nat, j + k = l.length ∧ i = .int .i64 j ∧ Ext w wr ∧ ∀ i, i < j → ¬ p i)
  case atStart => exact ⟨0, by omega, rfl, Ext.refl _, fun i hi => absurd hi (by omega)⟩
  case round =>
    obtain ⟨j, hj, rfl, hx, hok⟩ := hrel
    have Hok := Lib.hid hok
    clear hok
    by_cases hlt : j < l.length
    · obtain ⟨b, off, rfl, _, hb, h1, h2, h3⟩ := (H.out.ext hx (Nat.le_refl _)).at_ hlt
      go_wp2_with fail
      refine (Hf.out j wr hlt hx).mono ?_
      rintro e w1 ⟨rfl, hx1⟩
      go_wp2_with fail
      · go_ret
        exact ⟨j, rfl, (by repeat (first | exact Ext.refl _ | assumption | refine Ext.alloc ?_ _ | refine Ext.drew ?_ | refine Ext.drewN ?_ _ | refine Ext.setCell ?_ (by first | (simp; done) | (simp; omega) | omega) _ | refine Ext.trans ?_ (by assumption))), .inr ⟨by omega, j, hlt, B_iff.1 (by assumption)⟩⟩
      · go_roundg (l.length - (j + 1))
        case measure => omega
        case rel =>
          refine ⟨j + 1, by omega, by go_num, (by repeat (first | exact Ext.refl _ | assumption | refine Ext.alloc ?_ _ | refine Ext.drew ?_ | refine Ext.drewN ?_ _ | refine Ext.setCell ?_ (by first | (simp; done) | (simp; omega) | omega) _ | refine Ext.trans ?_ (by assumption))), fun i hi => ?_⟩
          by_cases e : i = j
          · rw [e]
            exact B_not.1 (by first | assumption | (simp only [← Bool.not_eq_true]; assumption))
          · exact Hok.out i (by omega)
    · obtain rfl : j = l.length := by omega
      go_wp2_with fail
      go_ret
      exact ⟨-1, rfl, (by repeat (first | exact Ext.refl _ | assumption | refine Ext.alloc ?_ _ | refine Ext.drew ?_ | refine Ext.drewN ?_ _ | refine Ext.setCell ?_ (by first | (simp; done) | (simp; omega) | omega) _ | refine Ext.trans ?_ (by assumption))), .inl ⟨rfl, Hok.out⟩⟩

set_option maxHeartbeats 400000 in
theorem containsFunc_ways (v : Value) (l : List Wy) (g : Nat) (caps : Array Value) (p : Nat → Prop) (w : World) (h : Wys w 0 w.heap.size v l)
    (hg : ∀ (args : Array Value) (w : World), (callFunc g args).run Tryz.prog w = .ok (.enter g args) w)
    (hf : ∀ (i : Nat) (w' : World), i < l.length → Ext w w' → Calls Tryz.prog g (#[.agg #[.int .i64 (wyAt l i).a, .int .i64 (wyAt l i).b, .int .i64 (wyAt l i).d]] ++ caps) w' (RetX (.bool (B (p i))) w')) :
    Calls Tryz.prog 246 #[v, .func (.func g) #[] caps] w (RetX (.bool (B (Some_ l.length p))) w) := by
  have H := Lib.hid (indexFunc_ways v l g caps p w h hg hf)
  clear h hf hg
  go_enter Tryz.func246, Tryz.ntmps246
  go_wp2_with fail
  refine H.out.mono ?_
  rintro e w1 ⟨r, rfl, hx, hr⟩
  have Hr := Lib.hid hr
  clear hr
  go_wp2_with fail
  go_ret
  refine ⟨ret_bool (B_eq ?_), (by repeat (first | exact Ext.refl _ | assumption | refine Ext.alloc ?_ _ | refine Ext.drew ?_ | refine Ext.drewN ?_ _ | refine Ext.setCell ?_ (by first | (simp; done) | (simp; omega) | omega) _ | refine Ext.trans ?_ (by assumption)))⟩
  simp only [decide_eq_true_eq]
  constructor
  · intro h
    rcases Hr.out with ⟨h1, _⟩ | ⟨_, h2⟩
    · omega
    · exact h2
  · rintro ⟨i, h1, h2⟩
    rcases Hr.out with ⟨_, h3⟩ | ⟨h3, _⟩
    · exact absurd h2 (h3 i h1)
    · omega
set_option maxHeartbeats 1000000 in
theorem impl_isPlace (A : Option Addr) (n c : Nat) (u : Value) (x : Int) (w : World) (hn : n ≤ 9223372036854775807) : Calls Tryz.prog 248 #[.agg #[.slice A n c, u], .int .i64 x] w (RetX (.bool (B (0 ≤ x ∧ x ≤ (n : Int) - 1))) w) := by
  have W1 : IntKind.i64.wrap ((n : Int) - 1) = (n : Int) - 1 := IntWalk.i64_in _ (by omega)
  go_enter Tryz.func248, Tryz.ntmps248
  go_wp2_with fail
  refine Calls.mono (impl_within x 0 ((n : Int) - 1) _) ?_
  rintro e w1 ⟨rfl, rfl⟩
  go_wp2_with fail
  go_ret
  exact ⟨rfl, (by repeat (first | exact Ext.refl _ | assumption | refine Ext.alloc ?_ _ | refine Ext.drew ?_ | refine Ext.drewN ?_ _ | refine Ext.setCell ?_ (by first | (simp; done) | (simp; omega) | omega) _ | refine Ext.trans ?_ (by assumption)))⟩
theorem impl_isPlace_b {x : Int} {n : Nat} {b : Bool} (hb : B (0 ≤ x ∧ x ≤ (n : Int) - 1) = b) (A : Option Addr) (c : Nat) (u : Value) (w : World) (hn : n ≤ 9223372036854775807) : Calls Tryz.prog 248 #[.agg #[.slice A n c, u], .int .i64 x] w (RetX (.bool b) w) := by
  subst hb; exact impl_isPlace A n c u x w hn
set_option maxRecDepth 100000 in
set_option maxHeartbeats 4000000 in
theorem impl_IsLand_1 (x : Wy) (g : Nat) (A : Option Addr) (n c : Nat) (u : Value) (w : World) (hn : n ≤ 9223372036854775807) (hg : g < w.heap.size) (hc0 : w.cell? ⟨g, 0, none⟩ = some (.slice A n c)) (hc1 : w.cell? ⟨g, 1, none⟩ = some u) :
    Calls Tryz.prog 247 #[.agg #[.int .i64 x.a, .int .i64 x.b, .int .i64 x.d], .pointer (some ⟨g, 0, none⟩)] w (RetX (.bool (B (¬ WyOk n x))) w) := by
  obtain ⟨q1, eq1⟩ : ∃ b, B (0 ≤ x.a ∧ x.a ≤ (n : Int) - 1) = b := ⟨_, rfl⟩
  have Hq1 := Lib.hid eq1
  clear eq1
  obtain ⟨q2, eq2⟩ : ∃ b, B (0 ≤ x.b ∧ x.b ≤ (n : Int) - 1) = b := ⟨_, rfl⟩
  have Hq2 := Lib.hid eq2
  clear eq2
  obtain ⟨q3, eq3⟩ : ∃ b, B (1 ≤ x.d ∧ x.d ≤ 60) = b := ⟨_, rfl⟩
  have Hq3 := Lib.hid eq3
  clear eq3
  have hg1 : g < w.heap.size + 1 := by omega
  have Hg := Lib.hid (And.intro hg (And.intro hc0 hc1))
  go_enter Tryz.func247, Tryz.ntmps247
  go_wp2_with fail
  refine Calls.mono (impl_isPlace_b Hq1.out _ _ _ _ hn) ?_
  rintro e w1 ⟨rfl, hx1⟩
  have bx := (Boxed.new w [.int .i64 x.a, .int .i64 x.b, .int .i64 x.d] 280).ext hx1; have bx0 := bx.at0; have bx1 := bx.at1; have bx2 := bx.at2; have bxg := bx.1; have Hbx := Lib.hid bx; clear bx
  have hxw1 : Ext w w1 := (by repeat (first | exact Ext.refl _ | assumption | refine Ext.alloc ?_ _ | refine Ext.drew ?_ | refine Ext.drewN ?_ _ | refine Ext.setCell ?_ (by first | (simp; done) | (simp; omega) | omega) _ | refine Ext.trans ?_ (by assumption)))
  obtain ⟨g1, g2, g3⟩ := Hg.out
  have m0 := (hxw1.cell (p := ⟨g, 0, none⟩) g1).trans g2
  have m1 := (hxw1.cell (p := ⟨g, 1, none⟩) g1).trans g3
  clear hc0 hc1 g1 g2 g3 hg hg1
  cases q1 with
  | false =>
    go_wp2_with fail
    go_ret
    exact ⟨ret_bool (B_true (fun h => absurd (h.1) (B_not.1 Hq1.out))).symm, (by repeat (first | exact Ext.refl _ | assumption | refine Ext.alloc ?_ _ | refine Ext.drew ?_ | refine Ext.drewN ?_ _ | refine Ext.setCell ?_ (by first | (simp; done) | (simp; omega) | omega) _ | refine Ext.trans ?_ (by assumption)))⟩
  | true =>
    go_wp2_with fail
    refine Calls.mono (impl_isPlace_b Hq2.out _ _ _ _ hn) ?_
    rintro e w2 ⟨rfl, hx2⟩
    clear bx0 bx1 bx2 bxg
    have bx := Hbx.out.ext hx2
    have bx0 := bx.at0
    have bx1 := bx.at1
    have bx2 := bx.at2
    have bxg := bx.1
    clear bx
    cases q2 with
    | false =>
      go_wp2_with fail
      go_ret
      exact ⟨ret_bool (B_true (fun h => absurd (h.2.1) (B_not.1 Hq2.out))).symm, (by repeat (first | exact Ext.refl _ | assumption | refine Ext.alloc ?_ _ | refine Ext.drew ?_ | refine Ext.drewN ?_ _ | refine Ext.setCell ?_ (by first | (simp; done) | (simp; omega) | omega) _ | refine Ext.trans ?_ (by assumption)))⟩
    | true =>
      by_cases h4 : x.a = x.b
      case pos =>
        have d4 : decide (x.a = x.b) = true := decide_eq_true h4
        have d5 : (x.a == x.b) = true := by simpa using h4
        have H4 := Lib.hid h4
        clear h4
        go_wp2_with fail
        go_ret
        exact ⟨ret_bool (B_true (fun h => h.2.2.1 H4.out)).symm, (by repeat (first | exact Ext.refl _ | assumption | refine Ext.alloc ?_ _ | refine Ext.drew ?_ | refine Ext.drewN ?_ _ | refine Ext.setCell ?_ (by first | (simp; done) | (simp; omega) | omega) _ | refine Ext.trans ?_ (by assumption)))⟩
      have d4 : decide (x.a = x.b) = false := decide_eq_false h4
      have d5 : (x.a == x.b) = false := by simpa using h4
      have H4 := Lib.hid h4
      clear h4
      go_wp2_with fail
      refine Calls.mono (impl_within_k Hq3.out _) ?_
      rintro e w3 ⟨rfl, rfl⟩
      cases q3 with
      | false =>
        go_wp2_with fail
        go_ret
        exact ⟨ret_bool (B_true (fun h => absurd (h.2.2.2) (B_not.1 Hq3.out))).symm, (by repeat (first | exact Ext.refl _ | assumption | refine Ext.alloc ?_ _ | refine Ext.drew ?_ | refine Ext.drewN ?_ _ | refine Ext.setCell ?_ (by first | (simp; done) | (simp; omega) | omega) _ | refine Ext.trans ?_ (by assumption)))⟩
      | true =>
        go_wp2_with fail
        go_ret
        exact ⟨ret_bool (B_false (fun h => h ⟨B_iff.1 Hq1.out, B_iff.1 Hq2.out, H4.out, B_iff.1 Hq3.out⟩)).symm, (by repeat (first | exact Ext.refl _ | assumption | refine Ext.alloc ?_ _ | refine Ext.drew ?_ | refine Ext.drewN ?_ _ | refine Ext.setCell ?_ (by first | (simp; done) | (simp; omega) | omega) _ | refine Ext.trans ?_ (by assumption)))⟩
set_option maxRecDepth 100000 in
set_option maxHeartbeats 16000000 in
theorem impl_IsLand (v u : Value) (L : Lnd) (w : World) (hp : Strs w 0 w.heap.size v L.pl) (ht : Wys w 0 w.heap.size u L.wy) : Calls Tryz.prog 164 #[.agg #[v, u]] w (RetX (.bool (B (LndOk L))) w) := by
  obtain ⟨Ap, cp, rfl, hnp, hcp⟩ := hp.len
  obtain ⟨At, ct, rfl, hnt, hct⟩ := ht.len
  have Hp := Lib.hid hp
  have Ht := Lib.hid ht
  clear hp ht
  have Hb := Lib.hid (Boxed.new w [.slice Ap L.pl.length cp, .slice At L.wy.length ct] 34)
  by_cases hl1 : 1 ≤ L.pl.length
  case neg =>
    have d1 : decide ((L.pl.length : Int) < 1) = true := decide_eq_true (by omega)
    go_enter Tryz.func164, Tryz.ntmps164
    go_wp2_with fail
    go_ret
    exact ⟨ret_bool (B_false (fun h => by have := h.1.1; omega)).symm, (by repeat (first | exact Ext.refl _ | assumption | refine Ext.alloc ?_ _ | refine Ext.drew ?_ | refine Ext.drewN ?_ _ | refine Ext.setCell ?_ (by first | (simp; done) | (simp; omega) | omega) _ | refine Ext.trans ?_ (by assumption)))⟩
  have d1 : decide ((L.pl.length : Int) < 1) = false := decide_eq_false (by omega)
  by_cases hl2 : L.pl.length ≤ 12
  case neg =>
    have d2 : decide ((12 : Int) < (L.pl.length : Int)) = true := decide_eq_true (by omega)
    go_enter Tryz.func164, Tryz.ntmps164
    go_wp2_with fail
    go_ret
    exact ⟨ret_bool (B_false (fun h => by have := h.1.2; omega)).symm, (by repeat (first | exact Ext.refl _ | assumption | refine Ext.alloc ?_ _ | refine Ext.drew ?_ | refine Ext.drewN ?_ _ | refine Ext.setCell ?_ (by first | (simp; done) | (simp; omega) | omega) _ | refine Ext.trans ?_ (by assumption)))⟩
  have d2 : decide ((12 : Int) < (L.pl.length : Int)) = false := decide_eq_false (by omega)
  by_cases hl3 : L.wy.length ≤ 40
  case neg =>
    have d3 : decide ((40 : Int) < (L.wy.length : Int)) = true := decide_eq_true (by omega)
    go_enter Tryz.func164, Tryz.ntmps164
    go_wp2_with fail
    go_ret
    exact ⟨ret_bool (B_false (fun h => by have := h.2.1; omega)).symm, (by repeat (first | exact Ext.refl _ | assumption | refine Ext.alloc ?_ _ | refine Ext.drew ?_ | refine Ext.drewN ?_ _ | refine Ext.setCell ?_ (by first | (simp; done) | (simp; omega) | omega) _ | refine Ext.trans ?_ (by assumption)))⟩
  have d3 : decide ((40 : Int) < (L.wy.length : Int)) = false := decide_eq_false (by omega)
  go_enter Tryz.func164, Tryz.ntmps164
  go_wp2_with fail
  go_loopg [3, 4, 24] L.pl.length (fun q u3 u4 i wr => ∃ j : Nat, j + q = L.pl.length ∧ i = .int .i64 j ∧ Ext (w.alloc (.cells #[.slice Ap L.pl.length cp, .slice At L.wy.length ct] 34)) wr ∧ ∀ i, i < j → PlStep L.pl i)
  case atStart => exact ⟨0, by omega, rfl, (by repeat (first | exact Ext.refl _ | assumption | refine Ext.alloc ?_ _ | refine Ext.drew ?_ | refine Ext.drewN ?_ _ | refine Ext.setCell ?_ (by first | (simp; done) | (simp; omega) | omega) _ | refine Ext.trans ?_ (by assumption))), fun i hi => absurd hi (by omega)⟩
  case round =>
    obtain ⟨j, hj, rfl, hx0, hok⟩ := hrel
    have Hok := Lib.hid hok
    clear hok
    have hx : Ext w wr := (by repeat (first | exact Ext.refl _ | assumption | refine Ext.alloc ?_ _ | refine Ext.drew ?_ | refine Ext.drewN ?_ _ | refine Ext.setCell ?_ (by first | (simp; done) | (simp; omega) | omega) _ | refine Ext.trans ?_ (by assumption)))
    have bx := Hb.out.ext hx0; have bx0 := bx.at0; have bx1 := bx.at1; have bxg := bx.1; have Hbx := Lib.hid bx; clear bx
    have hj0 : (0 : Int) ≤ (j : Int) := by omega
    by_cases hlt : j < L.pl.length
    · obtain ⟨b, off, eA, _, hb, h1⟩ := (Hp.out.ext hx (Nat.le_refl _)).at_ hlt
      have Hrow := Lib.hid (Hp.out.ext hx (Nat.le_refl _))
      subst eA
      have Htk := Lib.hid (Strs.take Hrow.out (Nat.le_of_lt hlt))
      clear Hrow
      have hbr : b < wr.heap.size := Nat.lt_of_lt_of_le hb hx.size
      have hji : (j : Int) < (L.pl.length : Int) := by omega
      have hjl : (j : Int) ≤ (L.pl.length : Int) := by omega
      have hjc : (j : Int) ≤ (cp : Int) := by omega
      have hjc2 : j ≤ cp := by omega
      obtain ⟨q1, eq1⟩ : ∃ b, B (NameOk (strAt L.pl j) 12) = b := ⟨_, rfl⟩
      have Hq1 := Lib.hid eq1
      clear eq1
      obtain ⟨r, er⟩ : ∃ r, fstIx (fun i => strAt (L.pl.take j) i = strAt L.pl j) (L.pl.take j).length = r := ⟨_, rfl⟩
      have Hdup := Lib.hid (dup_iff (l := L.pl) (j := j) (Nat.le_of_lt hlt))
      rw [er] at Hdup
      have Hr := Lib.hid er
      clear er
      have Hct := Lib.hid (fun W (hX : Ext wr W) => show Calls Tryz.prog 68 #[.slice (some ⟨b, off, none⟩) j cp, .string (strAt L.pl j)] W (RetX (.bool (B (0 ≤ r))) W) from by rw [← Hr.out]; exact slices_Contains_strs _ (L.pl.take j) (strAt L.pl j) W ((Htk.out.mono (Nat.le_refl _) hx.size).up hX))
      go_wp2_with fail
      refine Calls.mono (impl_isSmall_b Hq1.out _ (by decide)) ?_
      rintro e w1 ⟨rfl, hx1⟩
      have hxr : Ext wr w1 := (by repeat (first | exact Ext.refl _ | assumption | refine Ext.alloc ?_ _ | refine Ext.drew ?_ | refine Ext.drewN ?_ _ | refine Ext.setCell ?_ (by first | (simp; done) | (simp; omega) | omega) _ | refine Ext.trans ?_ (by assumption)))
      clear bx0 bx1 bxg
      have bx := Hbx.out.ext hxr
      have bx0 := bx.at0
      have bx1 := bx.at1
      have bxg := bx.1
      clear bx
      cases q1 with
      | false =>
        go_wp2_with fail
        go_ret
        exact ⟨ret_bool (B_false (fun h => B_not.1 Hq1.out (h.2.2.1 j hlt).1)).symm, (by repeat (first | exact Ext.refl _ | assumption | refine Ext.alloc ?_ _ | refine Ext.drew ?_ | refine Ext.drewN ?_ _ | refine Ext.setCell ?_ (by first | (simp; done) | (simp; omega) | omega) _ | refine Ext.trans ?_ (by assumption)))⟩
      | true =>
        go_wp2_with fail
        refine Calls.mono (Hct.out _ (by repeat (first | exact Ext.refl _ | assumption | refine Ext.alloc ?_ _ | refine Ext.drew ?_ | refine Ext.drewN ?_ _ | refine Ext.setCell ?_ (by first | (simp; done) | (simp; omega) | omega) _ | refine Ext.trans ?_ (by assumption)))) ?_
        rintro e w2 ⟨rfl, hx2⟩
        by_cases hr : 0 ≤ r
        case pos =>
          rw [B_true hr]
          go_wp2_with fail
          go_ret
          exact ⟨ret_bool (B_false (fun h => (Hdup.out.1 hr) (h.2.2.1 j hlt).2)).symm, (by repeat (first | exact Ext.refl _ | assumption | refine Ext.alloc ?_ _ | refine Ext.drew ?_ | refine Ext.drewN ?_ _ | refine Ext.setCell ?_ (by first | (simp; done) | (simp; omega) | omega) _ | refine Ext.trans ?_ (by assumption)))⟩
        rw [B_false hr]
        go_wp2_with fail
        go_roundg (L.pl.length - (j + 1))
        case measure => omega
        case rel => exact ⟨j + 1, by omega, by go_num, (by repeat (first | exact Ext.refl _ | assumption | refine Ext.alloc ?_ _ | refine Ext.drew ?_ | refine Ext.drewN ?_ _ | refine Ext.setCell ?_ (by first | (simp; done) | (simp; omega) | omega) _ | refine Ext.trans ?_ (by assumption))), pl_step Hok.out ⟨B_iff.1 Hq1.out, Classical.byContradiction fun hn => by have := Hdup.out.2 hn; omega⟩⟩
    · obtain rfl : j = L.pl.length := by omega
      have hji : ¬ (L.pl.length : Int) < (L.pl.length : Int) := by omega
      have Hpl := Lib.hid (show ∀ i, i < L.pl.length → PlStep L.pl i from Hok.out)
      clear hlt
      go_wp2_with fail
      refine Calls.mono (containsFunc_ways _ L.wy 247 #[.pointer (some ⟨w.heap.size, 0, none⟩)] (fun i => ¬ WyOk L.pl.length (wyAt L.wy i)) wr (Ht.out.up hx) Tryz.call247 (fun i w' _ hxx => impl_IsLand_1 (wyAt L.wy i) _ _ _ _ _ w' hnp (Hbx.out.ext hxx).1 (Hbx.out.ext hxx).at0 (Hbx.out.ext hxx).at1)) ?_
      rintro e w2 ⟨rfl, hx2⟩
      go_wp2_with fail
      go_ret
      refine ⟨ret_bool (B_eq ?_), (by repeat (first | exact Ext.refl _ | assumption | refine Ext.alloc ?_ _ | refine Ext.drew ?_ | refine Ext.drewN ?_ _ | refine Ext.setCell ?_ (by first | (simp; done) | (simp; omega) | omega) _ | refine Ext.trans ?_ (by assumption)))⟩
      rw [Bool.not_eq_true', B_not]
      exact ⟨fun h => ⟨⟨hl1, hl2⟩, hl3, Hpl.out, fun i hi => Classical.byContradiction fun hn => h ⟨i, hi, hn⟩⟩, fun h ⟨i, hi, hn⟩ => hn (h.2.2.2 i hi)⟩
end Go.Proofs.YtmmokjnljaifcaaGreatDoor

/- Contract: IsLand, the reference's. (Printed by genKe.py.) -/
namespace Go.Proofs.YtmmokjnljaifcaaGreatDoor
set_option linter.unusedVariables false
set_option linter.unusedSimpArgs false
open Go.RowKit
attribute [local go_sem] cell_onto

set_option maxHeartbeats 1000000 in
theorem spec_l14Place (A : Option Addr) (n c : Nat) (u : Value) (x : Int) (w : World) (hn : n ≤ 9223372036854775807) : Calls Tryz.prog 256 #[.agg #[.slice A n c, u], .int .i64 x] w (RetX (.bool (B (0 ≤ x ∧ x ≤ (n : Int) - 1))) w) := by
  have W1 : IntKind.i64.wrap ((n : Int) - 1) = (n : Int) - 1 := IntWalk.i64_in _ (by omega)
  go_enter Tryz.func256, Tryz.ntmps256
  go_wp2_with fail
  refine Calls.mono (spec_l01In x 0 ((n : Int) - 1) _) ?_
  rintro e w1 ⟨rfl, rfl⟩
  go_wp2_with fail
  go_ret
  exact ⟨rfl, (by repeat (first | exact Ext.refl _ | assumption | refine Ext.alloc ?_ _ | refine Ext.drew ?_ | refine Ext.drewN ?_ _ | refine Ext.setCell ?_ (by first | (simp; done) | (simp; omega) | omega) _ | refine Ext.trans ?_ (by assumption)))⟩
theorem spec_l14Place_b {x : Int} {n : Nat} {b : Bool} (hb : B (0 ≤ x ∧ x ≤ (n : Int) - 1) = b) (A : Option Addr) (c : Nat) (u : Value) (w : World) (hn : n ≤ 9223372036854775807) : Calls Tryz.prog 256 #[.agg #[.slice A n c, u], .int .i64 x] w (RetX (.bool b) w) := by
  subst hb; exact spec_l14Place A n c u x w hn
set_option maxRecDepth 100000 in
set_option maxHeartbeats 16000000 in
theorem spec_IsLand (v u : Value) (L : Lnd) (w : World) (hp : Strs w 0 w.heap.size v L.pl) (ht : Wys w 0 w.heap.size u L.wy) (hsm : ∀ i, i < L.pl.length → (strAt L.pl i).size ≤ 1048576) : Calls Tryz.prog 173 #[.agg #[v, u]] w (RetX (.bool (B (LndOk L))) w) := by
  obtain ⟨Ap, cp, rfl, hnp, hcp⟩ := hp.len
  obtain ⟨At, ct, rfl, hnt, hct⟩ := ht.len
  have Hp := Lib.hid hp
  have Ht := Lib.hid ht
  clear hp ht
  have Hsm := Lib.hid hsm
  clear hsm
  have Hb := Lib.hid (Boxed.new w [.slice Ap L.pl.length cp, .slice At L.wy.length ct] 34)
  go_enter Tryz.func173, Tryz.ntmps173
  go_wp2_with fail
  go_loopg [3] L.pl.length (fun q i wr => ∃ j : Nat, j + q = L.pl.length ∧ i = .int .i64 j ∧ Ext (w.alloc (.cells #[.slice Ap L.pl.length cp, .slice At L.wy.length ct] 34)) wr ∧ ∀ i, i < j → PlStep L.pl i)
  case atStart => exact ⟨0, by omega, rfl, (by repeat (first | exact Ext.refl _ | assumption | refine Ext.alloc ?_ _ | refine Ext.drew ?_ | refine Ext.drewN ?_ _ | refine Ext.setCell ?_ (by first | (simp; done) | (simp; omega) | omega) _ | refine Ext.trans ?_ (by assumption))), fun i hi => absurd hi (by omega)⟩
  case round =>
    obtain ⟨j, hj, rfl, hx0, hok⟩ := hrel
    have Hok := Lib.hid hok
    clear hok
    have hx : Ext w wr := (by repeat (first | exact Ext.refl _ | assumption | refine Ext.alloc ?_ _ | refine Ext.drew ?_ | refine Ext.drewN ?_ _ | refine Ext.setCell ?_ (by first | (simp; done) | (simp; omega) | omega) _ | refine Ext.trans ?_ (by assumption)))
    have bx := Hb.out.ext hx0; have bx0 := bx.at0; have bx1 := bx.at1; have bxg := bx.1; have Hbx := Lib.hid bx; clear bx
    have hj0 : (0 : Int) ≤ (j : Int) := by omega
    by_cases hlt : j < L.pl.length
    · obtain ⟨b, off, eA, _, hb, h1⟩ := (Hp.out.ext hx (Nat.le_refl _)).at_ hlt
      have Hrow := Lib.hid (Hp.out.ext hx (Nat.le_refl _))
      subst eA
      have Htk := Lib.hid (Strs.take Hrow.out (Nat.le_of_lt hlt))
      clear Hrow
      have hbr : b < wr.heap.size := Nat.lt_of_lt_of_le hb hx.size
      have hji : (j : Int) < (L.pl.length : Int) := by omega
      have hjl : (j : Int) ≤ (L.pl.length : Int) := by omega
      have hjc : (j : Int) ≤ (cp : Int) := by omega
      have hjc2 : j ≤ cp := by omega
      have hsz := Hsm.out j hlt
      obtain ⟨q1, eq1⟩ : ∃ b, B (NameOk (strAt L.pl j) 12) = b := ⟨_, rfl⟩
      have Hq1 := Lib.hid eq1
      clear eq1
      obtain ⟨r, er⟩ : ∃ r, fstIx (fun i => strAt (L.pl.take j) i = strAt L.pl j) (L.pl.take j).length = r := ⟨_, rfl⟩
      have Hdup := Lib.hid (dup_iff (l := L.pl) (j := j) (Nat.le_of_lt hlt))
      rw [er] at Hdup
      have Hr := Lib.hid er
      clear er
      have Hct := Lib.hid (fun W (hX : Ext wr W) => show Calls Tryz.prog 76 #[.slice (some ⟨b, off, none⟩) j cp, .string (strAt L.pl j)] W (RetX (.int .i64 r) W) from by rw [← Hr.out]; exact spec_l01Text _ (L.pl.take j) (strAt L.pl j) W ((Htk.out.mono (Nat.le_refl _) hx.size).up hX))
      cases q1 with
      | false =>
        go_wp2_with fail
        (refine wp_region_onto prog_mixed (by kernel_rfl) ?_; (repeat (go_big_quiet_step ((first | (go_at_call 170; exact onto_callS (spec_l01Name_b Hq1.out _ (by omega))) | (go_at_call 76; exact onto_callX (Hct.out _ (onto_ext _ _))))))); refine onto_end ?_; intro w1 hx1)
        go_wp2_with fail
        go_ret
        exact ⟨ret_bool (B_false (fun h => B_not.1 Hq1.out (h.2.2.1 j hlt).1)).symm, (by repeat (first | exact Ext.refl _ | assumption | refine Ext.alloc ?_ _ | refine Ext.drew ?_ | refine Ext.drewN ?_ _ | refine Ext.setCell ?_ (by first | (simp; done) | (simp; omega) | omega) _ | refine Ext.trans ?_ (by assumption)))⟩
      | true =>
        by_cases hr : 0 ≤ r
        case pos =>
          have dr : decide (0 ≤ r) = true := decide_eq_true hr
          go_wp2_with fail
          (refine wp_region_onto prog_mixed (by kernel_rfl) ?_; (repeat (go_big_quiet_step ((first | (go_at_call 170; exact onto_callS (spec_l01Name_b Hq1.out _ (by omega))) | (go_at_call 76; exact onto_callX (Hct.out _ (onto_ext _ _))))))); refine onto_end ?_; intro w1 hx1)
          go_wp2_with fail
          go_ret
          exact ⟨ret_bool (B_false (fun h => (Hdup.out.1 hr) (h.2.2.1 j hlt).2)).symm, (by repeat (first | exact Ext.refl _ | assumption | refine Ext.alloc ?_ _ | refine Ext.drew ?_ | refine Ext.drewN ?_ _ | refine Ext.setCell ?_ (by first | (simp; done) | (simp; omega) | omega) _ | refine Ext.trans ?_ (by assumption)))⟩
        have dr : decide (0 ≤ r) = false := decide_eq_false hr
        go_wp2_with fail
        (refine wp_region_onto prog_mixed (by kernel_rfl) ?_; (repeat (go_big_quiet_step ((first | (go_at_call 170; exact onto_callS (spec_l01Name_b Hq1.out _ (by omega))) | (go_at_call 76; exact onto_callX (Hct.out _ (onto_ext _ _))))))); refine onto_end ?_; intro w1 hx1)
        go_wp2_with fail
        go_roundg (L.pl.length - (j + 1))
        case measure => omega
        case rel => exact ⟨j + 1, by omega, by go_num, (by repeat (first | exact Ext.refl _ | assumption | refine Ext.alloc ?_ _ | refine Ext.drew ?_ | refine Ext.drewN ?_ _ | refine Ext.setCell ?_ (by first | (simp; done) | (simp; omega) | omega) _ | refine Ext.trans ?_ (by assumption))), pl_step Hok.out ⟨B_iff.1 Hq1.out, Classical.byContradiction fun hn => by have := Hdup.out.2 hn; omega⟩⟩
    · obtain rfl : j = L.pl.length := by omega
      have hji : ¬ (L.pl.length : Int) < (L.pl.length : Int) := by omega
      have Hpl := Lib.hid (show ∀ i, i < L.pl.length → PlStep L.pl i from Hok.out)
      clear hlt
      obtain ⟨wz, rfl⟩ : ∃ x : World, x = wr := ⟨_, rfl⟩
      go_wp2_with fail
      go_loopg [4, 5] L.wy.length (fun q i u5 wr => ∃ j : Nat, j + q = L.wy.length ∧ i = .int .i64 j ∧ Ext wz wr ∧ ∀ i, i < j → WyOk L.pl.length (wyAt L.wy i))
      case atStart => exact ⟨0, by omega, rfl, (by repeat (first | exact Ext.refl _ | assumption | refine Ext.alloc ?_ _ | refine Ext.drew ?_ | refine Ext.drewN ?_ _ | refine Ext.setCell ?_ (by first | (simp; done) | (simp; omega) | omega) _ | refine Ext.trans ?_ (by assumption))), fun i hi => absurd hi (by omega)⟩
      case round =>
        obtain ⟨j, hj, rfl, hxz, hok⟩ := hrel
        have Hwy := Lib.hid hok
        clear hok bx0 bx1 bxg
        have hx2 : Ext w wr := hx.trans hxz
        have bx := Hbx.out.ext hxz
        have bx0 := bx.at0
        have bx1 := bx.at1
        have bxg := bx.1
        have Hby := Lib.hid bx
        clear bx
        have bxg1 : w.heap.size < wr.heap.size + 1 := by omega
        have hj0 : (0 : Int) ≤ (j : Int) := by omega
        by_cases hlt : j < L.wy.length
        · obtain ⟨b, off, rfl, _, hb, h1, h2, h3⟩ := (Ht.out.ext hx2 (Nat.le_refl _)).at_ hlt
          have hbr : b < wr.heap.size := Nat.lt_of_lt_of_le hb hx2.size
          have hbr1 : b < wr.heap.size + 1 := by omega
          have hji : (j : Int) < (L.wy.length : Int) := by omega
          obtain ⟨q1, eq1⟩ : ∃ b, B (0 ≤ (wyAt L.wy j).a ∧ (wyAt L.wy j).a ≤ (L.pl.length : Int) - 1) = b := ⟨_, rfl⟩
          have Hq1 := Lib.hid eq1
          clear eq1
          obtain ⟨q2, eq2⟩ : ∃ b, B (0 ≤ (wyAt L.wy j).b ∧ (wyAt L.wy j).b ≤ (L.pl.length : Int) - 1) = b := ⟨_, rfl⟩
          have Hq2 := Lib.hid eq2
          clear eq2
          obtain ⟨q3, eq3⟩ : ∃ b, B (1 ≤ (wyAt L.wy j).d ∧ (wyAt L.wy j).d ≤ 60) = b := ⟨_, rfl⟩
          have Hq3 := Lib.hid eq3
          clear eq3
          go_wp2_with fail
          refine Calls.mono (spec_l14Place_b Hq1.out _ _ _ _ hnp) ?_
          rintro e w3 ⟨rfl, hx3⟩
          have bt := (Boxed.new wr [.int .i64 (wyAt L.wy j).a, .int .i64 (wyAt L.wy j).b, .int .i64 (wyAt L.wy j).d] 280).ext hx3; have bt0 := bt.at0; have bt1 := bt.at1; have bt2 := bt.at2; have btg := bt.1; have Hbt := Lib.hid bt; clear bt
          have hxr3 : Ext wr w3 := (by repeat (first | exact Ext.refl _ | assumption | refine Ext.alloc ?_ _ | refine Ext.drew ?_ | refine Ext.drewN ?_ _ | refine Ext.setCell ?_ (by first | (simp; done) | (simp; omega) | omega) _ | refine Ext.trans ?_ (by assumption)))
          clear bx0 bx1 bxg bxg1
          have bx := Hby.out.ext hxr3
          have bx0 := bx.at0
          have bx1 := bx.at1
          have bxg := bx.1
          clear bx h1 h2 h3
          cases q1 with
          | false =>
            go_wp2_with fail
            go_ret
            exact ⟨ret_bool (B_false (fun h => B_not.1 Hq1.out (by have hh := h.2.2.2 j hlt; exact hh.1))).symm, (by repeat (first | exact Ext.refl _ | assumption | refine Ext.alloc ?_ _ | refine Ext.drew ?_ | refine Ext.drewN ?_ _ | refine Ext.setCell ?_ (by first | (simp; done) | (simp; omega) | omega) _ | refine Ext.trans ?_ (by assumption)))⟩
          | true =>
            go_wp2_with fail
            refine Calls.mono (spec_l14Place_b Hq2.out _ _ _ _ hnp) ?_
            rintro e w4 ⟨rfl, hx4⟩
            clear bt0 bt1 bt2 btg
            have bt := Hbt.out.ext hx4
            have bt0 := bt.at0
            have bt1 := bt.at1
            have bt2 := bt.at2
            have btg := bt.1
            clear bt
            cases q2 with
            | false =>
              go_wp2_with fail
              go_ret
              exact ⟨ret_bool (B_false (fun h => B_not.1 Hq2.out (by have hh := h.2.2.2 j hlt; exact hh.2.1))).symm, (by repeat (first | exact Ext.refl _ | assumption | refine Ext.alloc ?_ _ | refine Ext.drew ?_ | refine Ext.drewN ?_ _ | refine Ext.setCell ?_ (by first | (simp; done) | (simp; omega) | omega) _ | refine Ext.trans ?_ (by assumption)))⟩
            | true =>
              by_cases h4 : (wyAt L.wy j).a = (wyAt L.wy j).b
              case pos =>
                have d5 : ((wyAt L.wy j).a == (wyAt L.wy j).b) = true := by simpa using h4
                have H4 := Lib.hid h4
                have d4 : decide ((wyAt L.wy j).a = (wyAt L.wy j).b) = true := decide_eq_true h4
                clear h4
                go_wp2_with fail
                go_ret
                exact ⟨ret_bool (B_false (fun h => (h.2.2.2 j hlt).2.2.1 H4.out)).symm, (by repeat (first | exact Ext.refl _ | assumption | refine Ext.alloc ?_ _ | refine Ext.drew ?_ | refine Ext.drewN ?_ _ | refine Ext.setCell ?_ (by first | (simp; done) | (simp; omega) | omega) _ | refine Ext.trans ?_ (by assumption)))⟩
              have d5 : ((wyAt L.wy j).a == (wyAt L.wy j).b) = false := by simpa using h4
              have d4 : decide ((wyAt L.wy j).a = (wyAt L.wy j).b) = false := decide_eq_false h4
              have H4 := Lib.hid h4
              clear h4
              go_wp2_with fail
              refine Calls.mono (spec_l01In_k Hq3.out _) ?_
              rintro e w5 ⟨rfl, rfl⟩
              cases q3 with
              | false =>
                go_wp2_with fail
                go_ret
                exact ⟨ret_bool (B_false (fun h => B_not.1 Hq3.out (by have hh := h.2.2.2 j hlt; exact hh.2.2.2))).symm, (by repeat (first | exact Ext.refl _ | assumption | refine Ext.alloc ?_ _ | refine Ext.drew ?_ | refine Ext.drewN ?_ _ | refine Ext.setCell ?_ (by first | (simp; done) | (simp; omega) | omega) _ | refine Ext.trans ?_ (by assumption)))⟩
              | true =>
                have Hn := Lib.hid (show WyOk L.pl.length (wyAt L.wy j) from ⟨B_iff.1 Hq1.out, B_iff.1 Hq2.out, H4.out, B_iff.1 Hq3.out⟩)
                go_wp2_with fail
                go_roundg (L.wy.length - (j + 1))
                case measure => omega
                case rel => exact ⟨j + 1, by omega, by go_num, (hxz.trans hxr3).trans (by repeat (first | exact Ext.refl _ | assumption | refine Ext.alloc ?_ _ | refine Ext.drew ?_ | refine Ext.drewN ?_ _ | refine Ext.setCell ?_ (by first | (simp; done) | (simp; omega) | omega) _ | refine Ext.trans ?_ (by assumption))), fun i hi => by
                  by_cases e : i = j
                  · rw [e]; exact Hn.out
                  · exact Hwy.out i (by omega)⟩
        · obtain rfl : j = L.wy.length := by omega
          have hji : ¬ (L.wy.length : Int) < (L.wy.length : Int) := by omega
          clear hlt
          by_cases hl1 : 1 ≤ L.pl.length
          case neg =>
            have d1 : decide ((1 : Int) ≤ (L.pl.length : Int)) = false := decide_eq_false (by omega)
            go_wp2_with fail
            go_ret
            exact ⟨ret_bool (B_false (fun h => by have := h.1.1; omega)).symm, (by repeat (first | exact Ext.refl _ | assumption | refine Ext.alloc ?_ _ | refine Ext.drew ?_ | refine Ext.drewN ?_ _ | refine Ext.setCell ?_ (by first | (simp; done) | (simp; omega) | omega) _ | refine Ext.trans ?_ (by assumption)))⟩
          have d1 : decide ((1 : Int) ≤ (L.pl.length : Int)) = true := decide_eq_true (by omega)
          by_cases hl2 : L.pl.length ≤ 12
          case neg =>
            have d2 : decide ((L.pl.length : Int) ≤ 12) = false := decide_eq_false (by omega)
            go_wp2_with fail
            go_ret
            exact ⟨ret_bool (B_false (fun h => by have := h.1.2; omega)).symm, (by repeat (first | exact Ext.refl _ | assumption | refine Ext.alloc ?_ _ | refine Ext.drew ?_ | refine Ext.drewN ?_ _ | refine Ext.setCell ?_ (by first | (simp; done) | (simp; omega) | omega) _ | refine Ext.trans ?_ (by assumption)))⟩
          have d2 : decide ((L.pl.length : Int) ≤ 12) = true := decide_eq_true (by omega)
          by_cases hl3 : L.wy.length ≤ 40
          case neg =>
            have d3 : decide ((L.wy.length : Int) ≤ 40) = false := decide_eq_false (by omega)
            go_wp2_with fail
            go_ret
            exact ⟨ret_bool (B_false (fun h => by have := h.2.1; omega)).symm, (by repeat (first | exact Ext.refl _ | assumption | refine Ext.alloc ?_ _ | refine Ext.drew ?_ | refine Ext.drewN ?_ _ | refine Ext.setCell ?_ (by first | (simp; done) | (simp; omega) | omega) _ | refine Ext.trans ?_ (by assumption)))⟩
          have d3 : decide ((L.wy.length : Int) ≤ 40) = true := decide_eq_true (by omega)
          go_wp2_with fail
          go_ret
          exact ⟨ret_bool (B_true ⟨⟨hl1, hl2⟩, hl3, Hpl.out, Hwy.out⟩).symm, (by repeat (first | exact Ext.refl _ | assumption | refine Ext.alloc ?_ _ | refine Ext.drew ?_ | refine Ext.drewN ?_ _ | refine Ext.setCell ?_ (by first | (simp; done) | (simp; omega) | omega) _ | refine Ext.trans ?_ (by assumption)))⟩
end Go.Proofs.YtmmokjnljaifcaaGreatDoor
