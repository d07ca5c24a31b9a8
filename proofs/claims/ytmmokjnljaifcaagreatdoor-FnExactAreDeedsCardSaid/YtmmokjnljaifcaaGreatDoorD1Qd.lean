/- Contracts: months and days, feasts, styles, kinds: the small functions of both sides. -/
import Derived.Test.YtmmokjnljaifcaaGreatDoorD1Jc
import Derived.Test.YtmmokjnljaifcaaGreatDoorD1Jd
namespace Go.Proofs.YtmmokjnljaifcaaGreatDoor
set_option linter.unusedVariables false
set_option linter.unusedSimpArgs false
open Go.RowKit
attribute [local go_sem] cell_onto

set_option maxHeartbeats 400000 in
theorem impl_isLeap (y : Int) (w : World) : Calls Tryz.prog 382 #[.int .i64 y, .bool false] w (RetS (.bool (decide (y.tmod 4 = 0))) w) := by
  by_cases h : y.tmod 4 = 0
  · have d1 : (y.tmod 4 == 0) = true := by simpa using h
    have d2 : decide (y.tmod 4 = 0) = true := decide_eq_true h
    go_enter Tryz.func382, Tryz.ntmps382
    go_wp2_with fail
    all_goals (go_ret; exact ⟨by simp [h], rfl⟩)
  · have d1 : (y.tmod 4 == 0) = false := by simpa using h
    have d2 : decide (y.tmod 4 = 0) = false := decide_eq_false h
    go_enter Tryz.func382, Tryz.ntmps382
    go_wp2_with fail
    all_goals (go_ret; exact ⟨by simp [h], rfl⟩)
set_option maxHeartbeats 400000 in
theorem spec_l01Leap (y : Int) (w : World) : Calls Tryz.prog 364 #[.int .i64 y, .bool false] w (RetS (.bool (decide (y.tmod 4 = 0))) w) := by
  by_cases h : y.tmod 4 = 0
  · have d1 : (y.tmod 4 == 0) = true := by simpa using h
    have d2 : decide (y.tmod 4 = 0) = true := decide_eq_true h
    go_enter Tryz.func364, Tryz.ntmps364
    go_wp2_with fail
    all_goals (go_ret; exact ⟨by simp [h], rfl⟩)
  · have d1 : (y.tmod 4 == 0) = false := by simpa using h
    have d2 : decide (y.tmod 4 = 0) = false := decide_eq_false h
    go_enter Tryz.func364, Tryz.ntmps364
    go_wp2_with fail
    all_goals (go_ret; exact ⟨by simp [h], rfl⟩)
theorem impl_isLeap_b {y : Int} {b : Bool} (hb : decide (y.tmod 4 = 0) = b) (w : World) : Calls Tryz.prog 382 #[.int .i64 y, .bool false] w (RetS (.bool b) w) := by
  subst hb; exact impl_isLeap y w
theorem spec_l01Leap_b {y : Int} {b : Bool} (hb : decide (y.tmod 4 = 0) = b) (w : World) : Calls Tryz.prog 364 #[.int .i64 y, .bool false] w (RetS (.bool b) w) := by
  subst hb; exact spec_l01Leap y w
set_option maxHeartbeats 1000000 in
theorem impl_lengthOfMonth (y mo : Int) (w : World) : Calls Tryz.prog 355 #[.int .i64 y, .int .i64 mo, .bool false] w (RetS (.int .i64 (lenO y mo)) w) := by
  by_cases h2 : mo = 2
  · subst h2
    obtain ⟨q, eq⟩ : ∃ b, decide (y.tmod 4 = 0) = b := ⟨_, rfl⟩
    have Hq := Lib.hid eq
    clear eq
    go_enter Tryz.func355, Tryz.ntmps355
    go_wp2_with fail
    refine Calls.mono (impl_isLeap_b Hq.out _) ?_
    rintro e w' ⟨rfl, rfl⟩
    cases q with
    | false => go_wp2_with fail; go_ret; exact ⟨ret_int (lenO_2n (of_decide_eq_false Hq.out)).symm, rfl⟩
    | true => go_wp2_with fail; go_ret; exact ⟨ret_int (lenO_2y (of_decide_eq_true Hq.out)).symm, rfl⟩
  · by_cases h : mo = 4 ∨ mo = 6 ∨ mo = 9 ∨ mo = 11
    · have E := Lib.hid (lenO_30 (y := y) h)
      rcases h with rfl | rfl | rfl | rfl
      all_goals (go_enter Tryz.func355, Tryz.ntmps355; go_wp2_with fail; go_ret; exact ⟨ret_int E.out.symm, rfl⟩)
    · have E := Lib.hid (lenO_31 (y := y) h2 h)
      have d2 : (mo == 2) = false := by simpa using h2
      have d4 : (mo == 4) = false := by simp; omega
      have d6 : (mo == 6) = false := by simp; omega
      have d9 : (mo == 9) = false := by simp; omega
      have d11 : (mo == 11) = false := by simp; omega
      have g2 : decide (mo = 2) = false := decide_eq_false (by omega)
      have g4 : decide (mo = 4) = false := decide_eq_false (by omega)
      have g6 : decide (mo = 6) = false := decide_eq_false (by omega)
      have g9 : decide (mo = 9) = false := decide_eq_false (by omega)
      have g11 : decide (mo = 11) = false := decide_eq_false (by omega)
      clear h2 h
      go_enter Tryz.func355, Tryz.ntmps355
      go_wp2_with fail
      go_ret
      exact ⟨ret_int E.out.symm, rfl⟩
set_option maxHeartbeats 1000000 in
theorem spec_l01Length (y mo : Int) (w : World) : Calls Tryz.prog 365 #[.int .i64 y, .int .i64 mo, .bool false] w (RetS (.int .i64 (lenO y mo)) w) := by
  by_cases h2 : mo = 2
  · subst h2
    obtain ⟨q, eq⟩ : ∃ b, decide (y.tmod 4 = 0) = b := ⟨_, rfl⟩
    have Hq := Lib.hid eq
    clear eq
    go_enter Tryz.func365, Tryz.ntmps365
    go_wp2_with fail
    refine Calls.mono (spec_l01Leap_b Hq.out _) ?_
    rintro e w' ⟨rfl, rfl⟩
    cases q with
    | false => go_wp2_with fail; go_ret; exact ⟨ret_int (lenO_2n (of_decide_eq_false Hq.out)).symm, rfl⟩
    | true => go_wp2_with fail; go_ret; exact ⟨ret_int (lenO_2y (of_decide_eq_true Hq.out)).symm, rfl⟩
  · by_cases h : mo = 4 ∨ mo = 6 ∨ mo = 9 ∨ mo = 11
    · have E := Lib.hid (lenO_30 (y := y) h)
      rcases h with rfl | rfl | rfl | rfl
      all_goals (go_enter Tryz.func365, Tryz.ntmps365; go_wp2_with fail; go_ret; exact ⟨ret_int E.out.symm, rfl⟩)
    · have E := Lib.hid (lenO_31 (y := y) h2 h)
      have d2 : (mo == 2) = false := by simpa using h2
      have d4 : (mo == 4) = false := by simp; omega
      have d6 : (mo == 6) = false := by simp; omega
      have d9 : (mo == 9) = false := by simp; omega
      have d11 : (mo == 11) = false := by simp; omega
      have g2 : decide (mo = 2) = false := decide_eq_false (by omega)
      have g4 : decide (mo = 4) = false := decide_eq_false (by omega)
      have g6 : decide (mo = 6) = false := decide_eq_false (by omega)
      have g9 : decide (mo = 9) = false := decide_eq_false (by omega)
      have g11 : decide (mo = 11) = false := decide_eq_false (by omega)
      clear h2 h
      go_enter Tryz.func365, Tryz.ntmps365
      go_wp2_with fail
      go_ret
      exact ⟨ret_int E.out.symm, rfl⟩
theorem impl_within_q {n lo hi : Int} {b : Bool} (hb : B (lo ≤ n ∧ n ≤ hi) = b) (w : World) : Calls Tryz.prog 119 #[.int .i64 n, .int .i64 lo, .int .i64 hi] w (RetS (.bool b) w) := by
  subst hb; exact impl_within n lo hi w
theorem spec_l01In_q {n lo hi : Int} {b : Bool} (hb : B (lo ≤ n ∧ n ≤ hi) = b) (w : World) : Calls Tryz.prog 122 #[.int .i64 n, .int .i64 lo, .int .i64 hi] w (RetS (.bool b) w) := by
  subst hb; exact spec_l01In n lo hi w
set_option maxHeartbeats 1000000 in
theorem impl_isDate (y mo d : Int) (w : World) : Calls Tryz.prog 369 #[.agg #[.int .i64 y, .int .i64 mo, .int .i64 d], .bool false] w (RetX (.bool (B (OldOk y mo d))) w) := by
  obtain ⟨q1, e1⟩ : ∃ b, B (1 ≤ y ∧ y ≤ 2000) = b := ⟨_, rfl⟩
  obtain ⟨q2, e2⟩ : ∃ b, B (1 ≤ mo ∧ mo ≤ 12) = b := ⟨_, rfl⟩
  obtain ⟨q3, e3⟩ : ∃ b, B (1 ≤ d ∧ d ≤ lenO y mo) = b := ⟨_, rfl⟩
  have Hq1 := Lib.hid e1
  have Hq2 := Lib.hid e2
  have Hq3 := Lib.hid e3
  clear e1 e2 e3
  cases q1
  case false =>
    go_enter Tryz.func369, Tryz.ntmps369
    go_wp2_with fail
    (refine wp_region_onto prog_mixed (by kernel_rfl) ?_; (repeat (go_big_quiet_step (((go_at_call 119; with_reducible exact onto_callS (impl_within_q Hq1.out _)))))); refine onto_end ?_; intro w1 hx1)
    go_wp2_with fail
    go_ret
    exact ⟨ret_bool (B_false (fun h => B_not.1 Hq1.out h.1)).symm, (by repeat (first | exact Ext.refl _ | assumption | refine Ext.alloc ?_ _ | refine Ext.drew ?_ | refine Ext.drewN ?_ _ | refine Ext.setCell ?_ (by first | (simp; done) | (simp; omega) | omega) _ | refine Ext.trans ?_ (by assumption)))⟩
  cases q2
  case false =>
    go_enter Tryz.func369, Tryz.ntmps369
    go_wp2_with fail
    (refine wp_region_onto prog_mixed (by kernel_rfl) ?_; (repeat (go_big_quiet_step ((first | (go_at_call 119; with_reducible exact onto_callS (impl_within_q Hq1.out _)) | (go_at_call 119; with_reducible exact onto_callS (impl_within_q Hq2.out _)))))); refine onto_end ?_; intro w1 hx1)
    go_wp2_with fail
    go_ret
    exact ⟨ret_bool (B_false (fun h => B_not.1 Hq2.out h.2.1)).symm, (by repeat (first | exact Ext.refl _ | assumption | refine Ext.alloc ?_ _ | refine Ext.drew ?_ | refine Ext.drewN ?_ _ | refine Ext.setCell ?_ (by first | (simp; done) | (simp; omega) | omega) _ | refine Ext.trans ?_ (by assumption)))⟩
  cases q3
  case false =>
    go_enter Tryz.func369, Tryz.ntmps369
    go_wp2_with fail
    (refine wp_region_onto prog_mixed (by kernel_rfl) ?_; (repeat (go_big_quiet_step ((first | (go_at_call 355; with_reducible exact onto_callS (impl_lengthOfMonth y mo _)) | (go_at_call 119; with_reducible exact onto_callS (impl_within_q Hq1.out _)) | (go_at_call 119; with_reducible exact onto_callS (impl_within_q Hq2.out _)) | (go_at_call 119; with_reducible exact onto_callS (impl_within_q Hq3.out _)))))); refine onto_end ?_; intro w1 hx1)
    go_wp2_with fail
    go_ret
    exact ⟨ret_bool (B_false (fun h => B_not.1 Hq3.out h.2.2)).symm, (by repeat (first | exact Ext.refl _ | assumption | refine Ext.alloc ?_ _ | refine Ext.drew ?_ | refine Ext.drewN ?_ _ | refine Ext.setCell ?_ (by first | (simp; done) | (simp; omega) | omega) _ | refine Ext.trans ?_ (by assumption)))⟩
  go_enter Tryz.func369, Tryz.ntmps369
  go_wp2_with fail
  (refine wp_region_onto prog_mixed (by kernel_rfl) ?_; (repeat (go_big_quiet_step ((first | (go_at_call 355; with_reducible exact onto_callS (impl_lengthOfMonth y mo _)) | (go_at_call 119; with_reducible exact onto_callS (impl_within_q Hq1.out _)) | (go_at_call 119; with_reducible exact onto_callS (impl_within_q Hq2.out _)) | (go_at_call 119; with_reducible exact onto_callS (impl_within_q Hq3.out _)))))); refine onto_end ?_; intro w1 hx1)
  go_wp2_with fail
  go_ret
  exact ⟨ret_bool (B_true ⟨B_iff.1 Hq1.out, B_iff.1 Hq2.out, B_iff.1 Hq3.out⟩).symm, (by repeat (first | exact Ext.refl _ | assumption | refine Ext.alloc ?_ _ | refine Ext.drew ?_ | refine Ext.drewN ?_ _ | refine Ext.setCell ?_ (by first | (simp; done) | (simp; omega) | omega) _ | refine Ext.trans ?_ (by assumption)))⟩
set_option maxHeartbeats 1000000 in
theorem spec_l01Valid (y mo d : Int) (w : World) : Calls Tryz.prog 350 #[.agg #[.int .i64 y, .int .i64 mo, .int .i64 d], .bool false] w (RetX (.bool (B (OldOk y mo d))) w) := by
  obtain ⟨q1, e1⟩ : ∃ b, B (1 ≤ y ∧ y ≤ 2000) = b := ⟨_, rfl⟩
  obtain ⟨q2, e2⟩ : ∃ b, B (1 ≤ mo ∧ mo ≤ 12) = b := ⟨_, rfl⟩
  obtain ⟨q3, e3⟩ : ∃ b, B (1 ≤ d ∧ d ≤ lenO y mo) = b := ⟨_, rfl⟩
  have Hq1 := Lib.hid e1
  have Hq2 := Lib.hid e2
  have Hq3 := Lib.hid e3
  clear e1 e2 e3
  cases q1
  case false =>
    go_enter Tryz.func350, Tryz.ntmps350
    go_wp2_with fail
    (refine wp_region_onto prog_mixed (by kernel_rfl) ?_; (repeat (go_big_quiet_step (((go_at_call 122; with_reducible exact onto_callS (spec_l01In_q Hq1.out _)))))); refine onto_end ?_; intro w1 hx1)
    go_wp2_with fail
    go_ret
    exact ⟨ret_bool (B_false (fun h => B_not.1 Hq1.out h.1)).symm, (by repeat (first | exact Ext.refl _ | assumption | refine Ext.alloc ?_ _ | refine Ext.drew ?_ | refine Ext.drewN ?_ _ | refine Ext.setCell ?_ (by first | (simp; done) | (simp; omega) | omega) _ | refine Ext.trans ?_ (by assumption)))⟩
  cases q2
  case false =>
    go_enter Tryz.func350, Tryz.ntmps350
    go_wp2_with fail
    (refine wp_region_onto prog_mixed (by kernel_rfl) ?_; (repeat (go_big_quiet_step ((first | (go_at_call 122; with_reducible exact onto_callS (spec_l01In_q Hq1.out _)) | (go_at_call 122; with_reducible exact onto_callS (spec_l01In_q Hq2.out _)))))); refine onto_end ?_; intro w1 hx1)
    go_wp2_with fail
    go_ret
    exact ⟨ret_bool (B_false (fun h => B_not.1 Hq2.out h.2.1)).symm, (by repeat (first | exact Ext.refl _ | assumption | refine Ext.alloc ?_ _ | refine Ext.drew ?_ | refine Ext.drewN ?_ _ | refine Ext.setCell ?_ (by first | (simp; done) | (simp; omega) | omega) _ | refine Ext.trans ?_ (by assumption)))⟩
  cases q3
  case false =>
    go_enter Tryz.func350, Tryz.ntmps350
    go_wp2_with fail
    (refine wp_region_onto prog_mixed (by kernel_rfl) ?_; (repeat (go_big_quiet_step ((first | (go_at_call 365; with_reducible exact onto_callS (spec_l01Length y mo _)) | (go_at_call 122; with_reducible exact onto_callS (spec_l01In_q Hq1.out _)) | (go_at_call 122; with_reducible exact onto_callS (spec_l01In_q Hq2.out _)) | (go_at_call 122; with_reducible exact onto_callS (spec_l01In_q Hq3.out _)))))); refine onto_end ?_; intro w1 hx1)
    go_wp2_with fail
    go_ret
    exact ⟨ret_bool (B_false (fun h => B_not.1 Hq3.out h.2.2)).symm, (by repeat (first | exact Ext.refl _ | assumption | refine Ext.alloc ?_ _ | refine Ext.drew ?_ | refine Ext.drewN ?_ _ | refine Ext.setCell ?_ (by first | (simp; done) | (simp; omega) | omega) _ | refine Ext.trans ?_ (by assumption)))⟩
  go_enter Tryz.func350, Tryz.ntmps350
  go_wp2_with fail
  (refine wp_region_onto prog_mixed (by kernel_rfl) ?_; (repeat (go_big_quiet_step ((first | (go_at_call 365; with_reducible exact onto_callS (spec_l01Length y mo _)) | (go_at_call 122; with_reducible exact onto_callS (spec_l01In_q Hq1.out _)) | (go_at_call 122; with_reducible exact onto_callS (spec_l01In_q Hq2.out _)) | (go_at_call 122; with_reducible exact onto_callS (spec_l01In_q Hq3.out _)))))); refine onto_end ?_; intro w1 hx1)
  go_wp2_with fail
  go_ret
  exact ⟨ret_bool (B_true ⟨B_iff.1 Hq1.out, B_iff.1 Hq2.out, B_iff.1 Hq3.out⟩).symm, (by repeat (first | exact Ext.refl _ | assumption | refine Ext.alloc ?_ _ | refine Ext.drew ?_ | refine Ext.drewN ?_ _ | refine Ext.setCell ?_ (by first | (simp; done) | (simp; omega) | omega) _ | refine Ext.trans ?_ (by assumption)))⟩
set_option maxHeartbeats 1000000 in
theorem impl_IsOldDate (y mo d : Int) (w : World) : Calls Tryz.prog 345 #[.agg #[.int .i64 y, .int .i64 mo, .int .i64 d]] w (RetX (.bool (B (OldOk y mo d))) w) := by
  go_enter Tryz.func345, Tryz.ntmps345
  go_wp2_with fail
  refine Calls.mono (impl_isDate y mo d _) ?_
  rintro e w1 ⟨rfl, hx1⟩
  go_wp2_with fail
  go_ret
  exact ⟨rfl, (by repeat (first | exact Ext.refl _ | assumption | refine Ext.alloc ?_ _ | refine Ext.drew ?_ | refine Ext.drewN ?_ _ | refine Ext.setCell ?_ (by first | (simp; done) | (simp; omega) | omega) _ | refine Ext.trans ?_ (by assumption)))⟩
set_option maxHeartbeats 1000000 in
theorem spec_IsOldDate (y mo d : Int) (w : World) : Calls Tryz.prog 317 #[.agg #[.int .i64 y, .int .i64 mo, .int .i64 d]] w (RetX (.bool (B (OldOk y mo d))) w) := by
  go_enter Tryz.func317, Tryz.ntmps317
  go_wp2_with fail
  refine Calls.mono (spec_l01Valid y mo d _) ?_
  rintro e w1 ⟨rfl, hx1⟩
  go_wp2_with fail
  go_ret
  exact ⟨rfl, (by repeat (first | exact Ext.refl _ | assumption | refine Ext.alloc ?_ _ | refine Ext.drew ?_ | refine Ext.drewN ?_ _ | refine Ext.setCell ?_ (by first | (simp; done) | (simp; omega) | omega) _ | refine Ext.trans ?_ (by assumption)))⟩
set_option maxHeartbeats 1000000 in
theorem impl_isMonthDay (mo d : Int) (w : World) : Calls Tryz.prog 306 #[.int .i64 mo, .int .i64 d] w (RetX (.bool (B (MdOk mo d))) w) := by
  have E := Lib.hid (B_congr (old4 mo d))
  go_enter Tryz.func306, Tryz.ntmps306
  go_wp2_with fail
  refine Calls.mono (impl_IsOldDate 4 mo d _) ?_
  rintro e w1 ⟨rfl, hx1⟩
  rw [E.out]
  go_wp2_with fail
  go_ret
  exact ⟨rfl, (by repeat (first | exact Ext.refl _ | assumption | refine Ext.alloc ?_ _ | refine Ext.drew ?_ | refine Ext.drewN ?_ _ | refine Ext.setCell ?_ (by first | (simp; done) | (simp; omega) | omega) _ | refine Ext.trans ?_ (by assumption)))⟩
/-! ### ranges -/
set_option maxHeartbeats 400000 in
theorem impl_isFeast (x : Int) (w : World) : Calls Tryz.prog 346 #[.int .i64 x] w (RetS (.bool (B (0 ≤ x ∧ x ≤ 19))) w) := by
  go_enter Tryz.func346, Tryz.ntmps346
  go_wp2_with (go_at_call 119; refine (impl_within _ _ _ _).mono ?_; rintro e w' ⟨rfl, rfl⟩)
  go_ret
  exact ⟨rfl, rfl⟩
set_option maxHeartbeats 400000 in
theorem spec_l05Feast (x : Int) (w : World) : Calls Tryz.prog 318 #[.int .i64 x] w (RetS (.bool (B (0 ≤ x ∧ x ≤ 19))) w) := by
  go_enter Tryz.func318, Tryz.ntmps318
  go_wp2_with (go_at_call 122; refine (spec_l01In _ _ _ _).mono ?_; rintro e w' ⟨rfl, rfl⟩)
  go_ret
  exact ⟨rfl, rfl⟩
set_option maxHeartbeats 400000 in
theorem impl_isStyle (x : Int) (w : World) : Calls Tryz.prog 309 #[.int .i64 x] w (RetS (.bool (B (0 ≤ x ∧ x ≤ 6))) w) := by
  go_enter Tryz.func309, Tryz.ntmps309
  go_wp2_with (go_at_call 119; refine (impl_within _ _ _ _).mono ?_; rintro e w' ⟨rfl, rfl⟩)
  go_ret
  exact ⟨rfl, rfl⟩
set_option maxHeartbeats 400000 in
theorem spec_l06Style (x : Int) (w : World) : Calls Tryz.prog 321 #[.int .i64 x] w (RetS (.bool (B (0 ≤ x ∧ x ≤ 6))) w) := by
  go_enter Tryz.func321, Tryz.ntmps321
  go_wp2_with (go_at_call 122; refine (spec_l01In _ _ _ _).mono ?_; rintro e w' ⟨rfl, rfl⟩)
  go_ret
  exact ⟨rfl, rfl⟩
set_option maxHeartbeats 400000 in
theorem impl_isStyleYear (x : Int) (w : World) : Calls Tryz.prog 308 #[.int .i64 x] w (RetS (.bool (B (2 ≤ x ∧ x ≤ 1999))) w) := by
  go_enter Tryz.func308, Tryz.ntmps308
  go_wp2_with (go_at_call 119; refine (impl_within _ _ _ _).mono ?_; rintro e w' ⟨rfl, rfl⟩)
  go_ret
  exact ⟨rfl, rfl⟩
set_option maxHeartbeats 400000 in
theorem spec_l06Year (x : Int) (w : World) : Calls Tryz.prog 320 #[.int .i64 x] w (RetS (.bool (B (2 ≤ x ∧ x ≤ 1999))) w) := by
  go_enter Tryz.func320, Tryz.ntmps320
  go_wp2_with (go_at_call 122; refine (spec_l01In _ _ _ _).mono ?_; rintro e w' ⟨rfl, rfl⟩)
  go_ret
  exact ⟨rfl, rfl⟩
set_option maxHeartbeats 400000 in
theorem impl_isKind (x : Int) (w : World) : Calls Tryz.prog 310 #[.int .i64 x] w (RetS (.bool (B (0 ≤ x ∧ x ≤ 2))) w) := by
  go_enter Tryz.func310, Tryz.ntmps310
  go_wp2_with (go_at_call 119; refine (impl_within _ _ _ _).mono ?_; rintro e w' ⟨rfl, rfl⟩)
  go_ret
  exact ⟨rfl, rfl⟩
set_option maxHeartbeats 400000 in
theorem spec_l08Kind (x : Int) (w : World) : Calls Tryz.prog 322 #[.int .i64 x] w (RetS (.bool (B (0 ≤ x ∧ x ≤ 2))) w) := by
  go_enter Tryz.func322, Tryz.ntmps322
  go_wp2_with (go_at_call 122; refine (spec_l01In _ _ _ _).mono ?_; rintro e w' ⟨rfl, rfl⟩)
  go_ret
  exact ⟨rfl, rfl⟩
set_option maxHeartbeats 1000000 in
theorem impl_isRelation (fe re wd : Int) (w : World) : Calls Tryz.prog 307 #[.int .i64 fe, .int .i64 re, .int .i64 wd] w (RetX (.bool (B (RelOk fe re wd))) w) := by
  go_enter Tryz.func307, Tryz.ntmps307
  go_wp2_with (first | (go_at_call 346; refine (impl_isFeast _ _).mono ?_; rintro e w' ⟨rfl, rfl⟩) | (go_at_call 119; refine (impl_within _ _ _ _).mono ?_; rintro e w' ⟨rfl, rfl⟩))
  all_goals (go_ret; refine ⟨ret_bool (B_eq ?_), (by repeat (first | exact Ext.refl _ | assumption | refine Ext.alloc ?_ _ | refine Ext.drew ?_ | refine Ext.drewN ?_ _ | refine Ext.setCell ?_ (by first | (simp; done) | (simp; omega) | omega) _ | refine Ext.trans ?_ (by assumption)))⟩; (try simp only [Bool.and_eq_true, Bool.or_eq_true, B_iff, B_not, Bool.not_eq_true, Bool.not_eq_false', Bool.not_eq_true', Bool.not_not, decide_eq_true_eq, decide_eq_false_iff_not, Bool.true_eq_false, Bool.false_eq_true, iff_true, iff_false, true_iff, false_iff, beq_iff_eq, bne_iff_ne, ne_eq] at *); (try unfold RelOk at *); (try dsimp only at *); omega)
def RelS (re wd : Int) : Prop := (0 ≤ re ∧ re ≤ 4) ∧ (0 ≤ wd ∧ wd ≤ 6) ∧ (3 ≤ re ∨ wd = 0)
set_option maxHeartbeats 1000000 in
theorem spec_l05Relation (re wd : Int) (w : World) : Calls Tryz.prog 319 #[.int .i64 re, .int .i64 wd] w (RetX (.bool (B (RelS re wd))) w) := by
  go_enter Tryz.func319, Tryz.ntmps319
  go_wp2_with (go_at_call 122; refine (spec_l01In _ _ _ _).mono ?_; rintro e w' ⟨rfl, rfl⟩)
  all_goals (go_ret; refine ⟨ret_bool (B_eq ?_), (by repeat (first | exact Ext.refl _ | assumption | refine Ext.alloc ?_ _ | refine Ext.drew ?_ | refine Ext.drewN ?_ _ | refine Ext.setCell ?_ (by first | (simp; done) | (simp; omega) | omega) _ | refine Ext.trans ?_ (by assumption)))⟩; (try simp only [Bool.and_eq_true, Bool.or_eq_true, B_iff, B_not, Bool.not_eq_true, Bool.not_eq_false', Bool.not_eq_true', Bool.not_not, decide_eq_true_eq, decide_eq_false_iff_not, Bool.true_eq_false, Bool.false_eq_true, iff_true, iff_false, true_iff, false_iff, beq_iff_eq, bne_iff_ne, ne_eq] at *); (try unfold RelS at *); (try dsimp only at *); omega)
end Go.Proofs.YtmmokjnljaifcaaGreatDoor
