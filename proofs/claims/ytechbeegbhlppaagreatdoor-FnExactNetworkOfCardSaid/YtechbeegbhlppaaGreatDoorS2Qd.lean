/- Texts merged (a claim holds at most sixty files): Qd, Vd, Ve, Kb, Kd, Ke, Kf. -/
import Derived.Test.YtechbeegbhlppaaGreatDoorS2Je
import Derived.Test.YtechbeegbhlppaaGreatDoorS2Jd
import Derived.IntWalk
import Derived.Test.YtechbeegbhlppaaGreatDoorS2Ka
namespace Go.Proofs.YtechbeegbhlppaaGreatDoor
set_option linter.unusedVariables false
set_option linter.unusedSimpArgs false
open Go.RowKit
attribute [local go_sem] cell_onto
set_option maxHeartbeats 400000 in
theorem impl_isLeap (y:Int) (w:World):Calls Tryz.prog 293 #[.int .i64 y,.bool false] w (RetS (.bool (decide (y.tmod 4=0))) w):=by
 by_cases h:y.tmod 4=0
 ·have d1:(y.tmod 4 == 0)=true:=by simpa using h
  have d2:decide (y.tmod 4=0)=true:=decide_eq_true h
  go_enter Tryz.func293,Tryz.ntmps293
  go_wp2_with fail
  all_goals (go_ret;exact ⟨by simp [h],rfl⟩)
 ·have d1:(y.tmod 4 == 0)=false:=by simpa using h
  have d2:decide (y.tmod 4=0)=false:=decide_eq_false h
  go_enter Tryz.func293,Tryz.ntmps293
  go_wp2_with fail
  all_goals (go_ret;exact ⟨by simp [h],rfl⟩)
set_option maxHeartbeats 400000 in
theorem spec_l01Leap (y:Int) (w:World):Calls Tryz.prog 321 #[.int .i64 y,.bool false] w (RetS (.bool (decide (y.tmod 4=0))) w):=by
 by_cases h:y.tmod 4=0
 ·have d1:(y.tmod 4 == 0)=true:=by simpa using h
  have d2:decide (y.tmod 4=0)=true:=decide_eq_true h
  go_enter Tryz.func321,Tryz.ntmps321
  go_wp2_with fail
  all_goals (go_ret;exact ⟨by simp [h],rfl⟩)
 ·have d1:(y.tmod 4 == 0)=false:=by simpa using h
  have d2:decide (y.tmod 4=0)=false:=decide_eq_false h
  go_enter Tryz.func321,Tryz.ntmps321
  go_wp2_with fail
  all_goals (go_ret;exact ⟨by simp [h],rfl⟩)
theorem impl_isLeap_b {y:Int} {b:Bool} (hb:decide (y.tmod 4=0)=b) (w:World):Calls Tryz.prog 293 #[.int .i64 y,.bool false] w (RetS (.bool b) w):=by
 subst hb;exact impl_isLeap y w
theorem spec_l01Leap_b {y:Int} {b:Bool} (hb:decide (y.tmod 4=0)=b) (w:World):Calls Tryz.prog 321 #[.int .i64 y,.bool false] w (RetS (.bool b) w):=by
 subst hb;exact spec_l01Leap y w
set_option maxHeartbeats 1000000 in
theorem impl_lengthOfMonth (y mo:Int) (w:World):Calls Tryz.prog 249 #[.int .i64 y,.int .i64 mo,.bool false] w (RetS (.int .i64 (lenO y mo)) w):=by
 by_cases h2:mo=2
 ·subst h2
  obtain ⟨q,eq⟩:∃ b,decide (y.tmod 4=0)=b:=⟨_,rfl⟩
  have Hq:=qh eq
  clear eq
  go_enter Tryz.func249,Tryz.ntmps249
  go_wp2_with fail
  refine Calls.mono (impl_isLeap_b Hq.out _) ?_
  rintro e w' ⟨rfl,rfl⟩
  cases q with
  | false=>go_wp2_with fail;go_ret;exact ⟨ret_int (lenO_2n (of_decide_eq_false Hq.out)).symm,rfl⟩
  | true=>go_wp2_with fail;go_ret;exact ⟨ret_int (lenO_2y (of_decide_eq_true Hq.out)).symm,rfl⟩
 ·by_cases h:mo=4 ∨ mo=6 ∨ mo=9 ∨ mo=11
  ·have E:=qh (lenO_30 (y:=y) h)
   rcases h with rfl | rfl | rfl | rfl
   all_goals (go_enter Tryz.func249,Tryz.ntmps249;go_wp2_with fail;go_ret;exact ⟨ret_int E.out.symm,rfl⟩)
  ·have E:=qh (lenO_31 (y:=y) h2 h)
   have d2:(mo == 2)=false:=by simpa using h2
   have d4:(mo == 4)=false:=by simp;omega
   have d6:(mo == 6)=false:=by simp;omega
   have d9:(mo == 9)=false:=by simp;omega
   have d11:(mo == 11)=false:=by simp;omega
   have g2:decide (mo=2)=false:=decide_eq_false (by omega)
   have g4:decide (mo=4)=false:=decide_eq_false (by omega)
   have g6:decide (mo=6)=false:=decide_eq_false (by omega)
   have g9:decide (mo=9)=false:=decide_eq_false (by omega)
   have g11:decide (mo=11)=false:=decide_eq_false (by omega)
   clear h2 h
   go_enter Tryz.func249,Tryz.ntmps249
   go_wp2_with fail
   go_ret
   exact ⟨ret_int E.out.symm,rfl⟩
set_option maxHeartbeats 1000000 in
theorem spec_l01Length (y mo:Int) (w:World):Calls Tryz.prog 322 #[.int .i64 y,.int .i64 mo,.bool false] w (RetS (.int .i64 (lenO y mo)) w):=by
 by_cases h2:mo=2
 ·subst h2
  obtain ⟨q,eq⟩:∃ b,decide (y.tmod 4=0)=b:=⟨_,rfl⟩
  have Hq:=qh eq
  clear eq
  go_enter Tryz.func322,Tryz.ntmps322
  go_wp2_with fail
  refine Calls.mono (spec_l01Leap_b Hq.out _) ?_
  rintro e w' ⟨rfl,rfl⟩
  cases q with
  | false=>go_wp2_with fail;go_ret;exact ⟨ret_int (lenO_2n (of_decide_eq_false Hq.out)).symm,rfl⟩
  | true=>go_wp2_with fail;go_ret;exact ⟨ret_int (lenO_2y (of_decide_eq_true Hq.out)).symm,rfl⟩
 ·by_cases h:mo=4 ∨ mo=6 ∨ mo=9 ∨ mo=11
  ·have E:=qh (lenO_30 (y:=y) h)
   rcases h with rfl | rfl | rfl | rfl
   all_goals (go_enter Tryz.func322,Tryz.ntmps322;go_wp2_with fail;go_ret;exact ⟨ret_int E.out.symm,rfl⟩)
  ·have E:=qh (lenO_31 (y:=y) h2 h)
   have d2:(mo == 2)=false:=by simpa using h2
   have d4:(mo == 4)=false:=by simp;omega
   have d6:(mo == 6)=false:=by simp;omega
   have d9:(mo == 9)=false:=by simp;omega
   have d11:(mo == 11)=false:=by simp;omega
   have g2:decide (mo=2)=false:=decide_eq_false (by omega)
   have g4:decide (mo=4)=false:=decide_eq_false (by omega)
   have g6:decide (mo=6)=false:=decide_eq_false (by omega)
   have g9:decide (mo=9)=false:=decide_eq_false (by omega)
   have g11:decide (mo=11)=false:=decide_eq_false (by omega)
   clear h2 h
   go_enter Tryz.func322,Tryz.ntmps322
   go_wp2_with fail
   go_ret
   exact ⟨ret_int E.out.symm,rfl⟩
theorem impl_within_q {n lo hi:Int} {b:Bool} (hb:B (lo ≤ n∧n ≤ hi)=b) (w:World):Calls Tryz.prog 52 #[.int .i64 n,.int .i64 lo,.int .i64 hi] w (RetS (.bool b) w):=by
 subst hb;exact impl_within n lo hi w
theorem spec_l01In_q {n lo hi:Int} {b:Bool} (hb:B (lo ≤ n∧n ≤ hi)=b) (w:World):Calls Tryz.prog 42 #[.int .i64 n,.int .i64 lo,.int .i64 hi] w (RetS (.bool b) w):=by
 subst hb;exact spec_l01In n lo hi w
set_option maxHeartbeats 1000000 in
theorem impl_isDate (y mo d:Int) (w:World):Calls Tryz.prog 324 #[.agg #[.int .i64 y,.int .i64 mo,.int .i64 d],.bool false] w (RetX (.bool (B (OldOk y mo d))) w):=by
 obtain ⟨q1,e1⟩:∃ b,B (1 ≤ y∧y ≤ 2000)=b:=⟨_,rfl⟩
 obtain ⟨q2,e2⟩:∃ b,B (1 ≤ mo∧mo ≤ 12)=b:=⟨_,rfl⟩
 obtain ⟨q3,e3⟩:∃ b,B (1 ≤ d∧d ≤ lenO y mo)=b:=⟨_,rfl⟩
 have Hq1:=qh e1
 have Hq2:=qh e2
 have Hq3:=qh e3
 clear e1 e2 e3
 cases q1
 case false =>
  go_enter Tryz.func324,Tryz.ntmps324
  go_wp2_with fail
  (refine wp_region_onto prog_mixed (by kernel_rfl) ?_;(repeat (go_big_quiet_step (((go_at_call 52;with_reducible exact onto_callS (impl_within_q Hq1.out _))))));refine onto_end ?_;intro w1 hx1)
  go_wp2_with fail
  go_ret
  exact ⟨ret_bool (B_false (fun h=>B_not.1 Hq1.out h.1)).symm,exts⟩
 cases q2
 case false =>
  go_enter Tryz.func324,Tryz.ntmps324
  go_wp2_with fail
  (refine wp_region_onto prog_mixed (by kernel_rfl) ?_;(repeat (go_big_quiet_step ((first | (go_at_call 52;with_reducible exact onto_callS (impl_within_q Hq1.out _)) | (go_at_call 52;with_reducible exact onto_callS (impl_within_q Hq2.out _))))));refine onto_end ?_;intro w1 hx1)
  go_wp2_with fail
  go_ret
  exact ⟨ret_bool (B_false (fun h=>B_not.1 Hq2.out h.2.1)).symm,exts⟩
 cases q3
 case false =>
  go_enter Tryz.func324,Tryz.ntmps324
  go_wp2_with fail
  (refine wp_region_onto prog_mixed (by kernel_rfl) ?_;(repeat (go_big_quiet_step ((first | (go_at_call 249;with_reducible exact onto_callS (impl_lengthOfMonth y mo _)) | (go_at_call 52;with_reducible exact onto_callS (impl_within_q Hq1.out _)) | (go_at_call 52;with_reducible exact onto_callS (impl_within_q Hq2.out _)) | (go_at_call 52;with_reducible exact onto_callS (impl_within_q Hq3.out _))))));refine onto_end ?_;intro w1 hx1)
  go_wp2_with fail
  go_ret
  exact ⟨ret_bool (B_false (fun h=>B_not.1 Hq3.out h.2.2)).symm,exts⟩
 go_enter Tryz.func324,Tryz.ntmps324
 go_wp2_with fail
 (refine wp_region_onto prog_mixed (by kernel_rfl) ?_;(repeat (go_big_quiet_step ((first | (go_at_call 249;with_reducible exact onto_callS (impl_lengthOfMonth y mo _)) | (go_at_call 52;with_reducible exact onto_callS (impl_within_q Hq1.out _)) | (go_at_call 52;with_reducible exact onto_callS (impl_within_q Hq2.out _)) | (go_at_call 52;with_reducible exact onto_callS (impl_within_q Hq3.out _))))));refine onto_end ?_;intro w1 hx1)
 go_wp2_with fail
 go_ret
 exact ⟨ret_bool (B_true ⟨B_iff.1 Hq1.out,B_iff.1 Hq2.out,B_iff.1 Hq3.out⟩).symm,exts⟩
set_option maxHeartbeats 1000000 in
theorem spec_l01Valid (y mo d:Int) (w:World):Calls Tryz.prog 312 #[.agg #[.int .i64 y,.int .i64 mo,.int .i64 d],.bool false] w (RetX (.bool (B (OldOk y mo d))) w):=by
 obtain ⟨q1,e1⟩:∃ b,B (1 ≤ y∧y ≤ 2000)=b:=⟨_,rfl⟩
 obtain ⟨q2,e2⟩:∃ b,B (1 ≤ mo∧mo ≤ 12)=b:=⟨_,rfl⟩
 obtain ⟨q3,e3⟩:∃ b,B (1 ≤ d∧d ≤ lenO y mo)=b:=⟨_,rfl⟩
 have Hq1:=qh e1
 have Hq2:=qh e2
 have Hq3:=qh e3
 clear e1 e2 e3
 cases q1
 case false =>
  go_enter Tryz.func312,Tryz.ntmps312
  go_wp2_with fail
  (refine wp_region_onto prog_mixed (by kernel_rfl) ?_;(repeat (go_big_quiet_step (((go_at_call 42;with_reducible exact onto_callS (spec_l01In_q Hq1.out _))))));refine onto_end ?_;intro w1 hx1)
  go_wp2_with fail
  go_ret
  exact ⟨ret_bool (B_false (fun h=>B_not.1 Hq1.out h.1)).symm,exts⟩
 cases q2
 case false =>
  go_enter Tryz.func312,Tryz.ntmps312
  go_wp2_with fail
  (refine wp_region_onto prog_mixed (by kernel_rfl) ?_;(repeat (go_big_quiet_step ((first | (go_at_call 42;with_reducible exact onto_callS (spec_l01In_q Hq1.out _)) | (go_at_call 42;with_reducible exact onto_callS (spec_l01In_q Hq2.out _))))));refine onto_end ?_;intro w1 hx1)
  go_wp2_with fail
  go_ret
  exact ⟨ret_bool (B_false (fun h=>B_not.1 Hq2.out h.2.1)).symm,exts⟩
 cases q3
 case false =>
  go_enter Tryz.func312,Tryz.ntmps312
  go_wp2_with fail
  (refine wp_region_onto prog_mixed (by kernel_rfl) ?_;(repeat (go_big_quiet_step ((first | (go_at_call 322;with_reducible exact onto_callS (spec_l01Length y mo _)) | (go_at_call 42;with_reducible exact onto_callS (spec_l01In_q Hq1.out _)) | (go_at_call 42;with_reducible exact onto_callS (spec_l01In_q Hq2.out _)) | (go_at_call 42;with_reducible exact onto_callS (spec_l01In_q Hq3.out _))))));refine onto_end ?_;intro w1 hx1)
  go_wp2_with fail
  go_ret
  exact ⟨ret_bool (B_false (fun h=>B_not.1 Hq3.out h.2.2)).symm,exts⟩
 go_enter Tryz.func312,Tryz.ntmps312
 go_wp2_with fail
 (refine wp_region_onto prog_mixed (by kernel_rfl) ?_;(repeat (go_big_quiet_step ((first | (go_at_call 322;with_reducible exact onto_callS (spec_l01Length y mo _)) | (go_at_call 42;with_reducible exact onto_callS (spec_l01In_q Hq1.out _)) | (go_at_call 42;with_reducible exact onto_callS (spec_l01In_q Hq2.out _)) | (go_at_call 42;with_reducible exact onto_callS (spec_l01In_q Hq3.out _))))));refine onto_end ?_;intro w1 hx1)
 go_wp2_with fail
 go_ret
 exact ⟨ret_bool (B_true ⟨B_iff.1 Hq1.out,B_iff.1 Hq2.out,B_iff.1 Hq3.out⟩).symm,exts⟩
set_option maxHeartbeats 1000000 in
theorem impl_IsOldDate (y mo d:Int) (w:World):Calls Tryz.prog 298 #[.agg #[.int .i64 y,.int .i64 mo,.int .i64 d]] w (RetX (.bool (B (OldOk y mo d))) w):=by
 go_enter Tryz.func298,Tryz.ntmps298
 go_wp2_with fail
 refine Calls.mono (impl_isDate y mo d _) ?_
 rintro e w1 ⟨rfl,hx1⟩
 go_wp2_with fail
 go_ret
 exact ⟨rfl,exts⟩
set_option maxHeartbeats 1000000 in
theorem spec_IsOldDate (y mo d:Int) (w:World):Calls Tryz.prog 263 #[.agg #[.int .i64 y,.int .i64 mo,.int .i64 d]] w (RetX (.bool (B (OldOk y mo d))) w):=by
 go_enter Tryz.func263,Tryz.ntmps263
 go_wp2_with fail
 refine Calls.mono (spec_l01Valid y mo d _) ?_
 rintro e w1 ⟨rfl,hx1⟩
 go_wp2_with fail
 go_ret
 exact ⟨rfl,exts⟩
set_option maxHeartbeats 1000000 in
theorem impl_isMonthDay (mo d:Int) (w:World):Calls Tryz.prog 283 #[.int .i64 mo,.int .i64 d] w (RetX (.bool (B (MdOk mo d))) w):=by
 have E:=qh (B_congr (old4 mo d))
 go_enter Tryz.func283,Tryz.ntmps283
 go_wp2_with fail
 refine Calls.mono (impl_IsOldDate 4 mo d _) ?_
 rintro e w1 ⟨rfl,hx1⟩
 rw [E.out]
 go_wp2_with fail
 go_ret
 exact ⟨rfl,exts⟩
set_option maxHeartbeats 400000 in
theorem impl_isFeast (x:Int) (w:World):Calls Tryz.prog 319 #[.int .i64 x] w (RetS (.bool (B (0 ≤ x∧x ≤ 19))) w):=by
 go_enter Tryz.func319,Tryz.ntmps319
 go_wp2_with (go_at_call 52;refine (impl_within _ _ _ _).mono ?_;rintro e w' ⟨rfl,rfl⟩)
 go_ret
 exact ⟨rfl,rfl⟩
set_option maxHeartbeats 400000 in
theorem spec_l05Feast (x:Int) (w:World):Calls Tryz.prog 264 #[.int .i64 x] w (RetS (.bool (B (0 ≤ x∧x ≤ 19))) w):=by
 go_enter Tryz.func264,Tryz.ntmps264
 go_wp2_with (go_at_call 42;refine (spec_l01In _ _ _ _).mono ?_;rintro e w' ⟨rfl,rfl⟩)
 go_ret
 exact ⟨rfl,rfl⟩
set_option maxHeartbeats 400000 in
theorem impl_isStyle (x:Int) (w:World):Calls Tryz.prog 285 #[.int .i64 x] w (RetS (.bool (B (0 ≤ x∧x ≤ 6))) w):=by
 go_enter Tryz.func285,Tryz.ntmps285
 go_wp2_with (go_at_call 52;refine (impl_within _ _ _ _).mono ?_;rintro e w' ⟨rfl,rfl⟩)
 go_ret
 exact ⟨rfl,rfl⟩
set_option maxHeartbeats 400000 in
theorem spec_l06Style (x:Int) (w:World):Calls Tryz.prog 267 #[.int .i64 x] w (RetS (.bool (B (0 ≤ x∧x ≤ 6))) w):=by
 go_enter Tryz.func267,Tryz.ntmps267
 go_wp2_with (go_at_call 42;refine (spec_l01In _ _ _ _).mono ?_;rintro e w' ⟨rfl,rfl⟩)
 go_ret
 exact ⟨rfl,rfl⟩
set_option maxHeartbeats 400000 in
theorem impl_isStyleYear (x:Int) (w:World):Calls Tryz.prog 253 #[.int .i64 x] w (RetS (.bool (B (2 ≤ x∧x ≤ 1999))) w):=by
 go_enter Tryz.func253,Tryz.ntmps253
 go_wp2_with (go_at_call 52;refine (impl_within _ _ _ _).mono ?_;rintro e w' ⟨rfl,rfl⟩)
 go_ret
 exact ⟨rfl,rfl⟩
set_option maxHeartbeats 400000 in
theorem spec_l06Year (x:Int) (w:World):Calls Tryz.prog 266 #[.int .i64 x] w (RetS (.bool (B (2 ≤ x∧x ≤ 1999))) w):=by
 go_enter Tryz.func266,Tryz.ntmps266
 go_wp2_with (go_at_call 42;refine (spec_l01In _ _ _ _).mono ?_;rintro e w' ⟨rfl,rfl⟩)
 go_ret
 exact ⟨rfl,rfl⟩
set_option maxHeartbeats 400000 in
theorem impl_isKind (x:Int) (w:World):Calls Tryz.prog 286 #[.int .i64 x] w (RetS (.bool (B (0 ≤ x∧x ≤ 2))) w):=by
 go_enter Tryz.func286,Tryz.ntmps286
 go_wp2_with (go_at_call 52;refine (impl_within _ _ _ _).mono ?_;rintro e w' ⟨rfl,rfl⟩)
 go_ret
 exact ⟨rfl,rfl⟩
set_option maxHeartbeats 400000 in
theorem spec_l08Kind (x:Int) (w:World):Calls Tryz.prog 268 #[.int .i64 x] w (RetS (.bool (B (0 ≤ x∧x ≤ 2))) w):=by
 go_enter Tryz.func268,Tryz.ntmps268
 go_wp2_with (go_at_call 42;refine (spec_l01In _ _ _ _).mono ?_;rintro e w' ⟨rfl,rfl⟩)
 go_ret
 exact ⟨rfl,rfl⟩
set_option maxHeartbeats 1000000 in
theorem impl_isRelation (fe re wd:Int) (w:World):Calls Tryz.prog 284 #[.int .i64 fe,.int .i64 re,.int .i64 wd] w (RetX (.bool (B (RelOk fe re wd))) w):=by
 go_enter Tryz.func284,Tryz.ntmps284
 go_wp2_with (first | (go_at_call 319;refine (impl_isFeast _ _).mono ?_;rintro e w' ⟨rfl,rfl⟩) | (go_at_call 52;refine (impl_within _ _ _ _).mono ?_;rintro e w' ⟨rfl,rfl⟩))
 all_goals (go_ret;refine ⟨ret_bool (B_eq ?_),exts⟩;(try simp only [Bool.and_eq_true,Bool.or_eq_true,B_iff,B_not,Bool.not_eq_true,Bool.not_eq_false', Bool.not_eq_true', Bool.not_not,decide_eq_true_eq,decide_eq_false_iff_not,Bool.true_eq_false,Bool.false_eq_true,iff_true,iff_false,true_iff,false_iff,beq_iff_eq,bne_iff_ne,ne_eq] at *);(try unfold RelOk at *);(try dsimp only at *);omega)
def RelS (re wd:Int):Prop:=(0 ≤ re∧re ≤ 4)∧(0 ≤ wd∧wd ≤ 6)∧(3 ≤ re ∨ wd=0)
set_option maxHeartbeats 1000000 in
theorem spec_l05Relation (re wd:Int) (w:World):Calls Tryz.prog 265 #[.int .i64 re,.int .i64 wd] w (RetX (.bool (B (RelS re wd))) w):=by
 go_enter Tryz.func265,Tryz.ntmps265
 go_wp2_with (go_at_call 42;refine (spec_l01In _ _ _ _).mono ?_;rintro e w' ⟨rfl,rfl⟩)
 all_goals (go_ret;refine ⟨ret_bool (B_eq ?_),exts⟩;(try simp only [Bool.and_eq_true,Bool.or_eq_true,B_iff,B_not,Bool.not_eq_true,Bool.not_eq_false', Bool.not_eq_true', Bool.not_not,decide_eq_true_eq,decide_eq_false_iff_not,Bool.true_eq_false,Bool.false_eq_true,iff_true,iff_false,true_iff,false_iff,beq_iff_eq,bne_iff_ne,ne_eq] at *);(try unfold RelS at *);(try dsimp only at *);omega)
theorem ny_tdiv {y:Int} (h:1 ≤ y∧y ≤ 5000):0 ≤ Int.tdiv (y - 1) 4∧Int.tdiv (y - 1) 4 ≤ 1250:=by
 rw [Int.tdiv_eq_ediv_of_nonneg (by omega)];omega
set_option maxHeartbeats 400000 in
theorem impl_newYear (y:Int) (h:1 ≤ y∧y ≤ 5000) (w:World):Calls Tryz.prog 248 #[.int .i64 y,.bool false] w (RetS (.int .i64 (nyO y)) w):=by
 have H:=qh h
 have w1:IntKind.i64.wrap (y - 1)=y - 1:=IntWalk.i64_in _ (by omega)
 have w2:IntKind.i64.wrap (365 * (y - 1))=365 * (y - 1):=IntWalk.i64_in _ (by omega)
 have w3:IntKind.i64.wrap (Int.tdiv (y - 1) 4)=Int.tdiv (y - 1) 4:=IntWalk.i64_in _ (by have:=ny_tdiv h;omega)
 have w4:IntKind.i64.wrap (365 * (y - 1)+Int.tdiv (y - 1) 4)=365 * (y - 1)+Int.tdiv (y - 1) 4:=IntWalk.i64_in _ (by have:=ny_tdiv h;omega)
 clear h
 go_enter Tryz.func248,Tryz.ntmps248
 go_wp2_with fail
 go_ret
 exact ⟨rfl,rfl⟩
set_option maxHeartbeats 1000000 in
theorem spec_l01Number (y mo d:Int) (h:1 ≤ y∧y ≤ 5000) (hm:1 ≤ mo∧mo ≤ 13) (hd : -100 ≤ d∧d ≤ 100) (w:World):Calls Tryz.prog 291 #[.agg #[.int .i64 y,.int .i64 mo,.int .i64 d],.bool false] w (RetX (.int .i64 (numO y mo d)) w):=by
 have Hm:=qh hm
 have Hd:=qh hd
 have Hy:=qh h
 have Hb:=qh (ny_bd h.1 h.2)
 have w1:IntKind.i64.wrap (y - 1)=y - 1:=IntWalk.i64_in _ (by omega)
 have w2:IntKind.i64.wrap (365 * (y - 1))=365 * (y - 1):=IntWalk.i64_in _ (by omega)
 have w3:IntKind.i64.wrap (Int.tdiv (y - 1) 4)=Int.tdiv (y - 1) 4:=IntWalk.i64_in _ (by have:=ny_tdiv h;omega)
 have w4:IntKind.i64.wrap (365 * (y - 1)+Int.tdiv (y - 1) 4)=nyO y:=IntWalk.i64_in _ (by have:=ny_tdiv h;omega)
 have w5:IntKind.i64.wrap (nyO y+d)=nyO y+d:=IntWalk.i64_in _ (by have:=Hb.out;omega)
 have w6:IntKind.i64.wrap (nyO y+d - 1)=nyO y+d - 1:=IntWalk.i64_in _ (by have:=Hb.out;omega)
 clear h hm hd
 go_enter Tryz.func291,Tryz.ntmps291
 go_wp2_with fail
 go_loopg [6,7] 13 (fun k n m wr=>∃ j:Nat,j+k=13∧((j:Int)+1 ≤ mo)∧m=.int .i64 ((j:Int)+1)∧n=.int .i64 (nyO y+d - 1+cumO y j)∧Ext w wr∧Boxed wr w.heap.size [.int .i64 y,.int .i64 mo,.int .i64 d])
 case atStart=>exact ⟨0,by omega,by have:=Hm.out;omega,rfl,by rw [show cumO y 0=0 from rfl,Int.add_zero],exts,by exact Boxed.new w _ _⟩
 case round =>
  obtain ⟨j,hj,hjm,rfl,rfl,hx,hb⟩:=hrel
  have hb0:=hb.at0
  have hb1:=hb.at1
  have Hb1:=qh hb
  have Hl:=qh (lenO_bd y ((j:Int)+1))
  have Hc:=qh (cumO_bd y j)
  by_cases hlt:(j:Int)+1 < mo
  ·have w7:IntKind.i64.wrap (nyO y+d - 1+cumO y j+lenO y ((j:Int)+1))=nyO y+d - 1+cumO y j+lenO y ((j:Int)+1):=IntWalk.i64_in _ (by have:=Hb.out;have:=Hl.out;have:=Hc.out;have:=Hd.out;have:=Hm.out;omega)
   have w8:IntKind.i64.wrap ((j:Int)+1+1)=(j:Int)+1+1:=IntWalk.i64_in _ (by have:=Hm.out;omega)
   have hlt' : ¬ mo ≤ (j:Int)+1:=by omega
   go_wp2_with fail
   refine Calls.mono (spec_l01Length y ((j:Int)+1) _) ?_
   rintro e w' ⟨rfl,rfl⟩
   go_wp2_with fail
   go_roundg (13 - (j+1))
   case measure=>have:=Hm.out;omega
   case rel =>
    refine ⟨j+1,by have:=Hm.out;omega,by omega,by go_num,?_,exts,Hb1.out⟩
    show _=Value.int .i64 (nyO y+d - 1+(cumO y j+lenO y ((j:Int)+1)))
    rw [← Int.add_assoc]
  ·have hge:mo ≤ (j:Int)+1:=by omega
   have E:Hid (nyO y+d - 1+cumO y j=numO y mo d):=qh (by
    obtain rfl:mo=(j:Int)+1:=by omega
    unfold numO
    rw [show ((j:Int)+1 - 1).toNat=j by omega])
   go_wp2_with fail
   go_ret
   exact ⟨ret_int E.out,exts⟩
set_option maxHeartbeats 1000000 in
theorem impl_dayOf (y mo d:Int) (h:1 ≤ y∧y ≤ 5000) (hm:1 ≤ mo∧mo ≤ 13) (hd : -100 ≤ d∧d ≤ 100) (w:World):Calls Tryz.prog 255 #[.agg #[.int .i64 y,.int .i64 mo,.int .i64 d],.bool false] w (RetX (.int .i64 (numO y mo d)) w):=by
 have Hm:=qh hm
 have Hd:=qh hd
 have Hy:=qh h
 have Hb:=qh (ny_bd h.1 h.2)
 have w5:IntKind.i64.wrap (nyO y+d)=nyO y+d:=IntWalk.i64_in _ (by have:=Hb.out;omega)
 have w6:IntKind.i64.wrap (nyO y+d - 1)=nyO y+d - 1:=IntWalk.i64_in _ (by have:=Hb.out;omega)
 have hbN:=Boxed.new w [.int .i64 y,.int .i64 mo,.int .i64 d] 265
 have HbN:=qh hbN
 clear h hm hd hbN
 go_enter Tryz.func255,Tryz.ntmps255
 go_wp2_with fail
 (refine wp_region_onto prog_mixed (by kernel_rfl) ?_;(repeat (go_big_quiet_step (((go_at_call 248;with_reducible exact onto_callS (impl_newYear y Hy.out _))))));refine onto_end ?_;intro w1 hx1)
 go_wp2_with fail
 go_loopg [5,6] 13 (fun k n m wr=>∃ j:Nat,j+k=13∧((j:Int)+1 ≤ mo)∧m=.int .i64 ((j:Int)+1)∧n=.int .i64 (nyO y+d - 1+cumO y j)∧Ext w wr∧Boxed wr w.heap.size [.int .i64 y,.int .i64 mo,.int .i64 d])
 case atStart=>exact ⟨0,by omega,by have:=Hm.out;omega,rfl,by rw [show cumO y 0=0 from rfl,Int.add_zero],exts,HbN.out.ext hx1⟩
 case round =>
  obtain ⟨j,hj,hjm,rfl,rfl,hx,hb⟩:=hrel
  have hb0:=hb.at0
  have hb1:=hb.at1
  have Hb1:=qh hb
  have Hl:=qh (lenO_bd y ((j:Int)+1))
  have Hc:=qh (cumO_bd y j)
  by_cases hlt:(j:Int)+1 < mo
  ·have w7:IntKind.i64.wrap (nyO y+d - 1+cumO y j+lenO y ((j:Int)+1))=nyO y+d - 1+cumO y j+lenO y ((j:Int)+1):=IntWalk.i64_in _ (by have:=Hb.out;have:=Hl.out;have:=Hc.out;have:=Hd.out;have:=Hm.out;omega)
   have w8:IntKind.i64.wrap ((j:Int)+1+1)=(j:Int)+1+1:=IntWalk.i64_in _ (by have:=Hm.out;omega)
   have hlt' : ¬ mo ≤ (j:Int)+1:=by omega
   go_wp2_with fail
   refine Calls.mono (impl_lengthOfMonth y ((j:Int)+1) _) ?_
   rintro e w' ⟨rfl,rfl⟩
   go_wp2_with fail
   go_roundg (13 - (j+1))
   case measure=>have:=Hm.out;omega
   case rel =>
    refine ⟨j+1,by have:=Hm.out;omega,by omega,by go_num,?_,exts,Hb1.out⟩
    show _=Value.int .i64 (nyO y+d - 1+(cumO y j+lenO y ((j:Int)+1)))
    rw [← Int.add_assoc]
  ·have hge:mo ≤ (j:Int)+1:=by omega
   have E:Hid (nyO y+d - 1+cumO y j=numO y mo d):=qh (by
    obtain rfl:mo=(j:Int)+1:=by omega
    unfold numO
    rw [show ((j:Int)+1 - 1).toNat=j by omega])
   go_wp2_with fail
   go_ret
   exact ⟨ret_int E.out,exts⟩
theorem yr_start {n:Int} (h:0 ≤ n):(0 ≤ n.tdiv 366∧n.tdiv 366 ≤ n)∧n.tdiv 366+1 ≤ yrO n:=by
 rw [Int.tdiv_eq_ediv_of_nonneg h]
 unfold yrO
 omega
theorem num_11 (y:Int):numO y 1 1=nyO y:=by
 unfold numO
 show nyO y+1 - 1+0=_
 omega
theorem num_m1 (y:Int) (j:Nat):numO y ((j:Int)+1) 1=nyO y+cumO y j:=by
 unfold numO
 rw [show ((j:Int)+1 - 1).toNat=j by omega]
 omega
theorem dy_num {n:Int} {j:Nat} (h:moO n=(j:Int)+1):n - numO (yrO n) ((j:Int)+1) 1+1=dyO n:=by
 rw [num_m1]
 unfold dyO
 rw [h,show ((j:Int)+1 - 1).toNat=j by omega]
 omega
def datV (n:Int):Value:=.agg #[.int .i64 (yrO n),.int .i64 (moO n),.int .i64 (dyO n)]
theorem dat_ret {n y:Int} {j:Nat} (hy:y=yrO n) (h:moO n=(j:Int)+1) {d:Int} (hd:d=n - numO y ((j:Int)+1) 1+1) :
  Ending.returned (.agg #[.int .i64 y,.int .i64 ((j:Int)+1),.int .i64 d])=Ending.returned (datV n):=by
 subst hy
 rw [hd,dy_num h,← h]
 rfl
set_option maxRecDepth 100000 in
set_option maxHeartbeats 4000000 in
theorem spec_l01Date (n:Int) (h:0 ≤ n∧n ≤ 730499) (w:World):Calls Tryz.prog 287 #[.int .i64 n,.bool false] w (RetX (datV n) w):=by
 have Hn:=qh h
 have ys:=yr_start h.1
 have Hys:=qh ys
 have w1:IntKind.i64.wrap (n.tdiv 366)=n.tdiv 366:=IntWalk.i64_in _ (by omega)
 have w2:IntKind.i64.wrap (n.tdiv 366+1)=n.tdiv 366+1:=IntWalk.i64_in _ (by omega)
 have hnn:(0:Int) ≤ n:=h.1
 clear h ys
 go_enter Tryz.func287,Tryz.ntmps287
 go_wp2_with fail
 go_loopg [] 5000 (fun k wr=>∃ y:Int,yrO n ≤ y+k∧1 ≤ y∧y ≤ yrO n∧Ext w wr∧Boxed wr (w.heap.size+1) [.int .i64 y,.int .i64 1,.int .i64 1]∧Boxed wr w.heap.size [.int .i64 0,.int .i64 0,.int .i64 0])
 case atStart =>
  refine ⟨n.tdiv 366+1,by have:=Hys.out;have:=yr_max Hn.out.2;omega,by have:=Hys.out;omega,Hys.out.2,exts,?_,?_⟩
  ·have h:=Boxed.new (w.alloc (.cells #[.int .i64 0,.int .i64 0,.int .i64 0] 265)) [.int .i64 (n.tdiv 366+1),.int .i64 1,.int .i64 1] 265
   rw [World.size_alloc] at h
   exact h
  ·exact (Boxed.new w [.int .i64 0,.int .i64 0,.int .i64 0] 265).ext exts
 case round =>
  obtain ⟨y,hk,hy1,hyy,hx,hb,hb0⟩:=hrel
  have Hb1:=qh hb
  have Hb0:=qh hb0
  have k0:=hb.at0
  have hy2:yrO n ≤ 2000:=yr_max Hn.out.2
  have W1:IntKind.i64.wrap (y+1)=y+1:=IntWalk.i64_in _ (by omega)
  clear hb hb0
  by_cases hlt:y < yrO n
  ·have hq:y < 2000:=by omega
   have hle:numO (y+1) 1 1 ≤ n:=by
    rw [num_11]
    have h1:=yr_bd Hn.out.1
    by_cases e:y+1=yrO n
    ·rw [e];omega
    ·have:=ny_lt (show 1 ≤ y+1 by omega) (show y+1 < yrO n by omega);omega
   go_wp2_with fail
   refine Calls.mono (spec_l01Number (y+1) 1 1 (by omega) (by omega) (by omega) _) ?_
   rintro e w' ⟨rfl,hx1⟩
   have hb2:=Hb1.out.ext hx1
   have Hb2:=qh hb2
   have k2:=hb2.at0
   have k3:=hb2.fz 0 (by simp)
   clear hb2
   go_wp2_with fail
   go_roundg (yrO n - (y+1)).toNat
   case measure=>omega
   case rel=>exact ⟨y+1,by omega,by omega,by omega,exts,Hb2.out.set 0 (.int .i64 (y+1)) (by simp),(Hb0.out.ext hx1).setOther (by simp) _⟩
  ·obtain rfl:y=yrO n:=by omega
   by_cases hq:yrO n < 2000
   ·have hle:¬ numO (yrO n+1) 1 1 ≤ n:=by rw [num_11];have h1:=yr_bd Hn.out.1;omega
    go_wp2_with fail
    refine Calls.mono (spec_l01Number (yrO n+1) 1 1 (by omega) (by omega) (by omega) _) ?_
    rintro e w' ⟨rfl,hx1⟩
    have hb2:=Hb1.out.ext hx1
    have Hb1:=qh hb2
    have Hb0:=qh (Hb0.out.ext hx1)
    clear hb2
    go_wp2_with fail
    go_loopg [] 12 (fun k wr=>∃ j:Nat,j+k=12∧j < 12∧cumO (yrO n) j ≤ n - nyO (yrO n)∧Ext w wr∧Boxed wr (w.heap.size+1) [.int .i64 (yrO n),.int .i64 ((j:Int)+1),.int .i64 1]∧Boxed wr w.heap.size [.int .i64 0,.int .i64 0,.int .i64 0])
    case atStart=>exact ⟨0,by omega,by omega,by have:=Hn.out;have:=yr_bd this.1;show 0 ≤ _;omega,exts,Hb1.out,Hb0.out⟩
    case round =>
     obtain ⟨j,hj,hj12,hc,hx,hb,hb0⟩:=hrel
     have Hb1:=qh hb
     have Hb0:=qh hb0
     have k0:=hb.at0
     have k1:=hb.at1
     have Hc:=qh hc
     have Hy:=qh (show 1 ≤ yrO n∧yrO n ≤ 5000 from by have:=yr_pos Hn.out.1;have:=yr_max Hn.out.2;omega)
     have W1:IntKind.i64.wrap ((j:Int)+1+1)=(j:Int)+1+1:=IntWalk.i64_in _ (by omega)
     have Wn:∀ d:Int,0 ≤ d → d ≤ 2000000 → IntKind.i64.wrap (n - d)=n - d:=fun d h1 h2=>IntWalk.i64_in _ (by have:=Hn.out;omega)
     have E1:Hid (∀ i:Nat,i < 13 → 0 ≤ numO (yrO n) ((i:Int)+1) 1∧numO (yrO n) ((i:Int)+1) 1 ≤ 2001000):=qh (fun i hi=>by rw [num_m1];have:=cumO_bd (yrO n) i;have:=ny_bd Hy.out.1 Hy.out.2;have:=num_small Hy.out.1 Hy.out.2 (mo:=(i:Int)+1) (d:=1) (by omega) (by omega);rw [num_m1] at this;omega)
     clear hb hb0 hc
     by_cases hq:(j:Int)+1 < 12
     ·by_cases hle:numO (yrO n) ((j:Int)+1+1) 1 ≤ n
      ·go_wp2_with fail
       refine Calls.mono (spec_l01Number (yrO n) ((j:Int)+1+1) 1 Hy.out (by omega) (by omega) _) ?_
       rintro e w' ⟨rfl,hx1⟩
       have hb2:=Hb1.out.ext hx1
       have Hb2:=qh hb2
       have k2:=hb2.at1
       have k3:=hb2.fz 1 (by simp)
       have Hle:=qh hle
       clear hb2
       go_wp2_with fail
       go_roundg (12 - (j+1))
       case measure=>omega
       case rel =>
        refine ⟨j+1,by omega,by omega,?_,exts,?_,(Hb0.out.ext hx1).setOther (by simp) _⟩
        ·have h1:=Hle.out
         have h2:=num_m1 (yrO n) (j+1)
         rw [show ((j+1:Nat):Int)=(j:Int)+1 by omega] at h2
         omega
        ·have h:=Hb2.out.set 1 (.int .i64 ((j:Int)+1+1)) (by simp)
         rw [show ((j+1:Nat):Int)=(j:Int)+1 by omega]
         exact h
      ·have E:Hid (moO n=(j:Int)+1):=qh (mo_unique Hn.out.1 Hc.out (by have h2:=num_m1 (yrO n) (j+1);rw [show ((j+1:Nat):Int)=(j:Int)+1 by omega] at h2;omega))
       go_wp2_with fail
       refine Calls.mono (spec_l01Number (yrO n) ((j:Int)+1+1) 1 Hy.out (by omega) (by omega) _) ?_
       rintro e w' ⟨rfl,hx1⟩
       have hb2:=Hb1.out.ext hx1
       have Hb2:=qh hb2
       have k2:=hb2.at0
       have k3:=hb2.at1
       have k4:=hb2.at2
       clear hb2
       have Wa:IntKind.i64.wrap (n - numO (yrO n) ((j:Int)+1) 1)=n - numO (yrO n) ((j:Int)+1) 1:=IntWalk.i64_in _ (by have:=E1.out j (by omega);have:=Hn.out;omega)
       have Wb:IntKind.i64.wrap (n - numO (yrO n) ((j:Int)+1) 1+1)=n - numO (yrO n) ((j:Int)+1) 1+1:=IntWalk.i64_in _ (by have:=E1.out j (by omega);have:=Hn.out;omega)
       go_wp2_with fail
       refine Calls.mono (spec_l01Number (yrO n) ((j:Int)+1) 1 Hy.out (by omega) (by omega) _) ?_
       rintro e w2 ⟨rfl,hx2⟩
       have hb3:=(Hb2.out.ext hx2)
       have hb4:=(Hb0.out.ext hx1).ext hx2
       have m0:=hb3.at0
       have m1:=hb3.at1
       have m2:=hb3.at2
       have m3:=hb3.fz 2 (by simp)
       have n0:=hb4.at0
       have n1:=hb4.at1
       have n2:=hb4.at2
       have f0:=hb4.fz 0 (by simp)
       have f1:=hb4.fz 1 (by simp)
       have f2:=hb4.fz 2 (by simp)
       clear hb3 hb4
       go_wp2_with fail
       refine bodyPost_ret (v:=.agg #[.int .i64 (yrO n),.int .i64 ((j:Int)+1),.int .i64 (n - numO (yrO n) ((j:Int)+1) 1+1)]) (by simp [results,Tryz.results287,go_sem, *]) rfl ⟨dat_ret rfl E.out rfl,?_⟩
       repeat (with_reducible refine Ext.setCell ?_ (by first | exact Nat.le_refl _ | exact Nat.le_add_right _ _) _)
       exact (hx.trans hx1).trans hx2
     ·have E:Hid (moO n=(j:Int)+1):=qh (mo_unique Hn.out.1 Hc.out (by
       obtain rfl:j=11:=by omega
       have h2:=yr_bd Hn.out.1;have h3:=ny_next (yr_pos Hn.out.1);show _ < cumO (yrO n) 12;omega))
      have hx1:Ext wr wr:=Ext.refl _
      have Hb2:=qh Hb1.out
      have k2:=Hb1.out.at0
      have k3:=Hb1.out.at1
      have k4:=Hb1.out.at2
      have Wa:IntKind.i64.wrap (n - numO (yrO n) ((j:Int)+1) 1)=n - numO (yrO n) ((j:Int)+1) 1:=IntWalk.i64_in _ (by have:=E1.out j (by omega);have:=Hn.out;omega)
      have Wb:IntKind.i64.wrap (n - numO (yrO n) ((j:Int)+1) 1+1)=n - numO (yrO n) ((j:Int)+1) 1+1:=IntWalk.i64_in _ (by have:=E1.out j (by omega);have:=Hn.out;omega)
      go_wp2_with fail
      refine Calls.mono (spec_l01Number (yrO n) ((j:Int)+1) 1 Hy.out (by omega) (by omega) _) ?_
      rintro e w2 ⟨rfl,hx2⟩
      have hb3:=(Hb2.out.ext hx2)
      have hb4:=(Hb0.out.ext hx1).ext hx2
      have m0:=hb3.at0
      have m1:=hb3.at1
      have m2:=hb3.at2
      have m3:=hb3.fz 2 (by simp)
      have n0:=hb4.at0
      have n1:=hb4.at1
      have n2:=hb4.at2
      have f0:=hb4.fz 0 (by simp)
      have f1:=hb4.fz 1 (by simp)
      have f2:=hb4.fz 2 (by simp)
      clear hb3 hb4
      go_wp2_with fail
      refine bodyPost_ret (v:=.agg #[.int .i64 (yrO n),.int .i64 ((j:Int)+1),.int .i64 (n - numO (yrO n) ((j:Int)+1) 1+1)]) (by simp [results,Tryz.results287,go_sem, *]) rfl ⟨dat_ret rfl E.out rfl,?_⟩
      repeat (with_reducible refine Ext.setCell ?_ (by first | exact Nat.le_refl _ | exact Nat.le_add_right _ _) _)
      exact (hx.trans hx1).trans hx2
   ·go_wp2_with fail
    go_loopg [] 12 (fun k wr=>∃ j:Nat,j+k=12∧j < 12∧cumO (yrO n) j ≤ n - nyO (yrO n)∧Ext w wr∧Boxed wr (w.heap.size+1) [.int .i64 (yrO n),.int .i64 ((j:Int)+1),.int .i64 1]∧Boxed wr w.heap.size [.int .i64 0,.int .i64 0,.int .i64 0])
    case atStart=>exact ⟨0,by omega,by omega,by have:=Hn.out;have:=yr_bd this.1;show 0 ≤ _;omega,exts,Hb1.out,Hb0.out⟩
    case round =>
     obtain ⟨j,hj,hj12,hc,hx,hb,hb0⟩:=hrel
     have Hb1:=qh hb
     have Hb0:=qh hb0
     have k0:=hb.at0
     have k1:=hb.at1
     have Hc:=qh hc
     have Hy:=qh (show 1 ≤ yrO n∧yrO n ≤ 5000 from by have:=yr_pos Hn.out.1;have:=yr_max Hn.out.2;omega)
     have W1:IntKind.i64.wrap ((j:Int)+1+1)=(j:Int)+1+1:=IntWalk.i64_in _ (by omega)
     have Wn:∀ d:Int,0 ≤ d → d ≤ 2000000 → IntKind.i64.wrap (n - d)=n - d:=fun d h1 h2=>IntWalk.i64_in _ (by have:=Hn.out;omega)
     have E1:Hid (∀ i:Nat,i < 13 → 0 ≤ numO (yrO n) ((i:Int)+1) 1∧numO (yrO n) ((i:Int)+1) 1 ≤ 2001000):=qh (fun i hi=>by rw [num_m1];have:=cumO_bd (yrO n) i;have:=ny_bd Hy.out.1 Hy.out.2;have:=num_small Hy.out.1 Hy.out.2 (mo:=(i:Int)+1) (d:=1) (by omega) (by omega);rw [num_m1] at this;omega)
     clear hb hb0 hc
     by_cases hq:(j:Int)+1 < 12
     ·by_cases hle:numO (yrO n) ((j:Int)+1+1) 1 ≤ n
      ·go_wp2_with fail
       refine Calls.mono (spec_l01Number (yrO n) ((j:Int)+1+1) 1 Hy.out (by omega) (by omega) _) ?_
       rintro e w' ⟨rfl,hx1⟩
       have hb2:=Hb1.out.ext hx1
       have Hb2:=qh hb2
       have k2:=hb2.at1
       have k3:=hb2.fz 1 (by simp)
       have Hle:=qh hle
       clear hb2
       go_wp2_with fail
       go_roundg (12 - (j+1))
       case measure=>omega
       case rel =>
        refine ⟨j+1,by omega,by omega,?_,exts,?_,(Hb0.out.ext hx1).setOther (by simp) _⟩
        ·have h1:=Hle.out
         have h2:=num_m1 (yrO n) (j+1)
         rw [show ((j+1:Nat):Int)=(j:Int)+1 by omega] at h2
         omega
        ·have h:=Hb2.out.set 1 (.int .i64 ((j:Int)+1+1)) (by simp)
         rw [show ((j+1:Nat):Int)=(j:Int)+1 by omega]
         exact h
      ·have E:Hid (moO n=(j:Int)+1):=qh (mo_unique Hn.out.1 Hc.out (by have h2:=num_m1 (yrO n) (j+1);rw [show ((j+1:Nat):Int)=(j:Int)+1 by omega] at h2;omega))
       go_wp2_with fail
       refine Calls.mono (spec_l01Number (yrO n) ((j:Int)+1+1) 1 Hy.out (by omega) (by omega) _) ?_
       rintro e w' ⟨rfl,hx1⟩
       have hb2:=Hb1.out.ext hx1
       have Hb2:=qh hb2
       have k2:=hb2.at0
       have k3:=hb2.at1
       have k4:=hb2.at2
       clear hb2
       have Wa:IntKind.i64.wrap (n - numO (yrO n) ((j:Int)+1) 1)=n - numO (yrO n) ((j:Int)+1) 1:=IntWalk.i64_in _ (by have:=E1.out j (by omega);have:=Hn.out;omega)
       have Wb:IntKind.i64.wrap (n - numO (yrO n) ((j:Int)+1) 1+1)=n - numO (yrO n) ((j:Int)+1) 1+1:=IntWalk.i64_in _ (by have:=E1.out j (by omega);have:=Hn.out;omega)
       go_wp2_with fail
       refine Calls.mono (spec_l01Number (yrO n) ((j:Int)+1) 1 Hy.out (by omega) (by omega) _) ?_
       rintro e w2 ⟨rfl,hx2⟩
       have hb3:=(Hb2.out.ext hx2)
       have hb4:=(Hb0.out.ext hx1).ext hx2
       have m0:=hb3.at0
       have m1:=hb3.at1
       have m2:=hb3.at2
       have m3:=hb3.fz 2 (by simp)
       have n0:=hb4.at0
       have n1:=hb4.at1
       have n2:=hb4.at2
       have f0:=hb4.fz 0 (by simp)
       have f1:=hb4.fz 1 (by simp)
       have f2:=hb4.fz 2 (by simp)
       clear hb3 hb4
       go_wp2_with fail
       refine bodyPost_ret (v:=.agg #[.int .i64 (yrO n),.int .i64 ((j:Int)+1),.int .i64 (n - numO (yrO n) ((j:Int)+1) 1+1)]) (by simp [results,Tryz.results287,go_sem, *]) rfl ⟨dat_ret rfl E.out rfl,?_⟩
       repeat (with_reducible refine Ext.setCell ?_ (by first | exact Nat.le_refl _ | exact Nat.le_add_right _ _) _)
       exact (hx.trans hx1).trans hx2
     ·have E:Hid (moO n=(j:Int)+1):=qh (mo_unique Hn.out.1 Hc.out (by
       obtain rfl:j=11:=by omega
       have h2:=yr_bd Hn.out.1;have h3:=ny_next (yr_pos Hn.out.1);show _ < cumO (yrO n) 12;omega))
      have hx1:Ext wr wr:=Ext.refl _
      have Hb2:=qh Hb1.out
      have k2:=Hb1.out.at0
      have k3:=Hb1.out.at1
      have k4:=Hb1.out.at2
      have Wa:IntKind.i64.wrap (n - numO (yrO n) ((j:Int)+1) 1)=n - numO (yrO n) ((j:Int)+1) 1:=IntWalk.i64_in _ (by have:=E1.out j (by omega);have:=Hn.out;omega)
      have Wb:IntKind.i64.wrap (n - numO (yrO n) ((j:Int)+1) 1+1)=n - numO (yrO n) ((j:Int)+1) 1+1:=IntWalk.i64_in _ (by have:=E1.out j (by omega);have:=Hn.out;omega)
      go_wp2_with fail
      refine Calls.mono (spec_l01Number (yrO n) ((j:Int)+1) 1 Hy.out (by omega) (by omega) _) ?_
      rintro e w2 ⟨rfl,hx2⟩
      have hb3:=(Hb2.out.ext hx2)
      have hb4:=(Hb0.out.ext hx1).ext hx2
      have m0:=hb3.at0
      have m1:=hb3.at1
      have m2:=hb3.at2
      have m3:=hb3.fz 2 (by simp)
      have n0:=hb4.at0
      have n1:=hb4.at1
      have n2:=hb4.at2
      have f0:=hb4.fz 0 (by simp)
      have f1:=hb4.fz 1 (by simp)
      have f2:=hb4.fz 2 (by simp)
      clear hb3 hb4
      go_wp2_with fail
      refine bodyPost_ret (v:=.agg #[.int .i64 (yrO n),.int .i64 ((j:Int)+1),.int .i64 (n - numO (yrO n) ((j:Int)+1) 1+1)]) (by simp [results,Tryz.results287,go_sem, *]) rfl ⟨dat_ret rfl E.out rfl,?_⟩
      repeat (with_reducible refine Ext.setCell ?_ (by first | exact Nat.le_refl _ | exact Nat.le_add_right _ _) _)
      exact (hx.trans hx1).trans hx2
set_option maxHeartbeats 1000000 in
theorem spec_l01Old (n:Int) (h:0 ≤ n∧n ≤ 730499) (w:World):Calls Tryz.prog 240 #[.int .i64 n] w (RetX (datV n) w):=by
 have Hn:=qh h
 clear h
 go_enter Tryz.func240,Tryz.ntmps240
 go_wp2_with fail
 refine Calls.mono (spec_l01Date n Hn.out _) ?_
 rintro e w1 ⟨rfl,hx1⟩
 have hb:=((Boxed.new w [.int .i64 0,.int .i64 0,.int .i64 0] 265).ext hx1)
 have n0:=hb.at0
 have n1:=hb.at1
 have n2:=hb.at2
 have f0:=hb.fz 0 (by simp)
 have f1:=hb.fz 1 (by simp)
 have f2:=hb.fz 2 (by simp)
 clear hb
 simp only [datV]
 go_wp2_with fail
 refine bodyPost_ret (v:=datV n) (by simp [datV,results,Tryz.results240,go_sem, *]) rfl ⟨rfl,?_⟩
 repeat (with_reducible refine Ext.setCell ?_ (by first | exact Nat.le_refl _ | exact Nat.le_add_right _ _) _)
 exact Ext.trans exts hx1
theorem spec_l01Day_b {n:Int} {b:Bool} (hb:B (DayOk n)=b) (w:World):Calls Tryz.prog 225 #[.int .i64 n] w (RetS (.bool b) w):=by
 subst hb;exact spec_l01Day n w
theorem spec_l01In_k {n lo hi:Int} {b:Bool} (hb:B (lo ≤ n∧n ≤ hi)=b) (w:World):Calls Tryz.prog 42 #[.int .i64 n,.int .i64 lo,.int .i64 hi] w (RetS (.bool b) w):=by
 subst hb;exact spec_l01In n lo hi w
set_option maxHeartbeats 2000000 in
theorem impl_isReign (x:Nsp) (w:World):Calls Tryz.prog 269 #[.agg #[.string x.nm,.int .i64 x.fr,.int .i64 x.to]] w (RetX (.bool (B (NspOk x))) w):=by
 obtain ⟨q1,eq1⟩:∃ b,B (NameOk x.nm 12)=b:=⟨_,rfl⟩
 have Hq1:=qh eq1
 clear eq1
 obtain ⟨q2,eq2⟩:∃ b,B (DayOk x.fr)=b:=⟨_,rfl⟩
 have Hq2:=qh eq2
 clear eq2
 obtain ⟨q3,eq3⟩:∃ b,B (DayOk x.to)=b:=⟨_,rfl⟩
 have Hq3:=qh eq3
 clear eq3
 go_enter Tryz.func269,Tryz.ntmps269
 go_wp2_with fail
 refine Calls.mono (impl_isSmall_b Hq1.out _ (by decide)) ?_
 rintro e w1 ⟨rfl,hx1⟩
 have bx:=(Boxed.new w [.string x.nm,.int .i64 x.fr,.int .i64 x.to] 224).ext hx1;have bx0:=bx.at0;have bx1:=bx.at1;have bx2:=bx.at2;have bxg:=bx.1;have Hbx:=qh bx;clear bx
 cases q1 with
 | false =>
  go_wp2_with fail
  go_ret
  exact ⟨ret_bool (B_false (fun h=>absurd (h.1) (B_not.1 Hq1.out))).symm,exts⟩
 | true =>
  go_wp2_with fail
  refine Calls.mono (impl_isDay_b Hq2.out _) ?_
  rintro e w2 ⟨rfl,rfl⟩
  cases q2 with
  | false =>
   go_wp2_with fail
   go_ret
   exact ⟨ret_bool (B_false (fun h=>absurd (h.2.1) (B_not.1 Hq2.out))).symm,exts⟩
  | true =>
   go_wp2_with fail
   refine Calls.mono (impl_isDay_b Hq3.out _) ?_
   rintro e w3 ⟨rfl,rfl⟩
   cases q3 with
   | false =>
    go_wp2_with fail
    go_ret
    exact ⟨ret_bool (B_false (fun h=>absurd (h.2.2.1) (B_not.1 Hq3.out))).symm,exts⟩
   | true =>
    by_cases h4:x.fr ≤ x.to
    ·have d4:decide (x.fr ≤ x.to)=true:=decide_eq_true h4
     go_wp2_with fail
     go_ret
     exact ⟨ret_bool (B_true ⟨B_iff.1 Hq1.out,B_iff.1 Hq2.out,B_iff.1 Hq3.out,h4⟩).symm,exts⟩
    ·have d4:decide (x.fr ≤ x.to)=false:=decide_eq_false h4
     go_wp2_with fail
     go_ret
     exact ⟨ret_bool (B_false (fun h=>by have:=h.2.2.2;omega)).symm,exts⟩
set_option maxHeartbeats 2000000 in
theorem spec_l07Reign (x:Nsp) (w:World) (hs:x.nm.size ≤ 1048576):Calls Tryz.prog 261 #[.agg #[.string x.nm,.int .i64 x.fr,.int .i64 x.to]] w (RetX (.bool (B (NspOk x))) w):=by
 obtain ⟨q1,eq1⟩:∃ b,B (NameOk x.nm 12)=b:=⟨_,rfl⟩
 have Hq1:=qh eq1
 clear eq1
 obtain ⟨q2,eq2⟩:∃ b,B (DayOk x.fr)=b:=⟨_,rfl⟩
 have Hq2:=qh eq2
 clear eq2
 obtain ⟨q3,eq3⟩:∃ b,B (DayOk x.to)=b:=⟨_,rfl⟩
 have Hq3:=qh eq3
 clear eq3
 go_enter Tryz.func261,Tryz.ntmps261
 go_wp2_with fail
 refine Calls.mono (spec_l01Name_b Hq1.out _ (by omega)) ?_
 rintro e w1 ⟨rfl,rfl⟩
 cases q1 with
 | false =>
  go_wp2_with fail
  go_ret
  exact ⟨ret_bool (B_false (fun h=>absurd (h.1) (B_not.1 Hq1.out))).symm,exts⟩
 | true =>
  go_wp2_with fail
  refine Calls.mono (spec_l01Day_b Hq2.out _) ?_
  rintro e w2 ⟨rfl,rfl⟩
  cases q2 with
  | false =>
   go_wp2_with fail
   go_ret
   exact ⟨ret_bool (B_false (fun h=>absurd (h.2.1) (B_not.1 Hq2.out))).symm,exts⟩
  | true =>
   go_wp2_with fail
   refine Calls.mono (spec_l01Day_b Hq3.out _) ?_
   rintro e w3 ⟨rfl,rfl⟩
   cases q3 with
   | false =>
    go_wp2_with fail
    go_ret
    exact ⟨ret_bool (B_false (fun h=>absurd (h.2.2.1) (B_not.1 Hq3.out))).symm,exts⟩
   | true =>
    by_cases h4:x.fr ≤ x.to
    ·have d4:decide (x.fr ≤ x.to)=true:=decide_eq_true h4
     go_wp2_with fail
     go_ret
     exact ⟨ret_bool (B_true ⟨B_iff.1 Hq1.out,B_iff.1 Hq2.out,B_iff.1 Hq3.out,h4⟩).symm,exts⟩
    ·have d4:decide (x.fr ≤ x.to)=false:=decide_eq_false h4
     go_wp2_with fail
     go_ret
     exact ⟨ret_bool (B_false (fun h=>by have:=h.2.2.2;omega)).symm,exts⟩
set_option maxRecDepth 100000 in
set_option maxHeartbeats 4000000 in
theorem impl_AreReigns (v:Value) (l:List Nsp) (w:World) (h:Nsps w 0 w.heap.size v l):Calls Tryz.prog 230 #[v] w (RetX (.bool (B (RgsOk l))) w):=by
 obtain ⟨A,c,rfl,hn,hc⟩:=h.len
 have H:=qh h
 clear h
 go_enter Tryz.func230,Tryz.ntmps230
 go_wp2_with fail
 go_loopg [3,4,7] l.length (fun q u3 u4 i wr=>∃ j:Nat,j+q=l.length∧i=.int .i64 j∧Ext w wr∧∀ i,i < j → RgStep l i)
 case atStart=>exact ⟨0,by omega,rfl,Ext.refl _,fun i hi=>absurd hi (by omega)⟩
 case round =>
  obtain ⟨j,hj,rfl,hx,hok⟩:=hrel
  have Hok:=qh hok
  clear hok
  by_cases hlt:j < l.length
  ·obtain ⟨b,off,rfl,_,hb,h1,h2,h3⟩:=(H.out.ext hx (Nat.le_refl _)).at_ hlt
   have hbr:b < wr.heap.size:=Nat.lt_of_lt_of_le hb hx.size
   have hbr1:b < wr.heap.size+1:=by omega
   have hj0:(0:Int) ≤ (j:Int):=by omega
   have hji:(j:Int) < (l.length:Int):=by omega
   obtain ⟨q1,e1⟩:∃ b,B (NspOk (nspAt l j))=b:=⟨_,rfl⟩
   have Hq:=qh (show ∀ W,Calls Tryz.prog 269 #[.agg #[.string (nspAt l j).nm,.int .i64 (nspAt l j).fr,.int .i64 (nspAt l j).to]] W (RetX (.bool q1) W) from fun W=>by subst e1;exact impl_isReign (nspAt l j) W)
   have H1:=qh e1
   clear e1
   cases q1 with
   | false =>
    go_wp2_with fail
    (refine wp_region_onto prog_mixed (by kernel_rfl) ?_;(repeat (go_big_quiet_step ((go_at_call 269;exact onto_callX (Hq.out _)))));refine onto_end ?_;intro w1 hx1)
    go_wp2_with fail
    go_ret
    exact ⟨ret_bool (B_false (fun h=>B_not.1 H1.out (h.2 j hlt).1)).symm,exts⟩
   | true =>
    by_cases h0:0 < j
    ·have hb0:decide ((0:Int) < (j:Int))=true:=by simp;omega
     obtain ⟨b', off', e,_,_,k1,k2,k3⟩:=(H.out.ext hx (Nat.le_refl _)).at_ (i:=j - 1) (by omega)
     injection e with e
     injection e with e1 e2
     subst e1 e2
     have hq0:(0:Int) ≤ (j:Int) - 1:=by omega
     have hq1:(j:Int) - 1 < (l.length:Int):=by omega
     have hq2:((j:Int) - 1).toNat=j - 1:=by omega
     by_cases hf:(nspAt l j).fr < (nspAt l (j - 1)).fr
     ·have T3:decide ((nspAt l j).fr < (nspAt l (j - 1)).fr)=true:=decide_eq_true hf
      go_wp2_with fail
      (refine wp_region_onto prog_mixed (by kernel_rfl) ?_;(repeat (go_big_quiet_step ((go_at_call 269;exact onto_callX (Hq.out _)))));refine onto_end ?_;intro w1 hx1)
      go_wp2_with fail
      go_ret
      exact ⟨ret_bool (B_false (fun h=>absurd ((h.2 j hlt).2 h0) (by omega))).symm,exts⟩
     ·have T3:decide ((nspAt l j).fr < (nspAt l (j - 1)).fr)=false:=decide_eq_false hf
      go_wp2_with fail
      (refine wp_region_onto prog_mixed (by kernel_rfl) ?_;(repeat (go_big_quiet_step ((go_at_call 269;exact onto_callX (Hq.out _)))));refine onto_end ?_;intro w1 hx1)
      go_wp2_with fail
      go_roundg (l.length - (j+1))
      case measure=>omega
      case rel=>exact ⟨j+1,by omega,by go_num,exts,rgs_step Hok.out ⟨B_iff.1 H1.out,fun _=>by omega⟩⟩
    ·have hb0:decide ((0:Int) < (j:Int))=false:=by simp;omega
     go_wp2_with fail
     (refine wp_region_onto prog_mixed (by kernel_rfl) ?_;(repeat (go_big_quiet_step ((go_at_call 269;exact onto_callX (Hq.out _)))));refine onto_end ?_;intro w1 hx1)
     go_wp2_with fail
     go_roundg (l.length - (j+1))
     case measure=>omega
     case rel=>exact ⟨j+1,by omega,by go_num,exts,rgs_step Hok.out ⟨B_iff.1 H1.out,fun hh=>absurd hh h0⟩⟩
  ·obtain rfl:j=l.length:=by omega
   have hji:¬ (l.length:Int) < (l.length:Int):=by omega
   go_wp2_with fail
   go_ret
   refine ⟨ret_bool (B_eq ?_),exts⟩
   simp only [decide_eq_true_eq]
   exact ⟨fun h=>⟨by omega,Hok.out⟩,fun h=>by have:=h.1;omega⟩
set_option maxRecDepth 100000 in
set_option maxHeartbeats 4000000 in
theorem spec_AreReigns (v:Value) (l:List Nsp) (w:World) (h:Nsps w 0 w.heap.size v l) (hsm:NSm l):Calls Tryz.prog 224 #[v] w (RetX (.bool (B (RgsOk l))) w):=by
 obtain ⟨A,c,rfl,hn,hc⟩:=h.len
 have H:=qh h
 clear h
 have Hsm:=qh hsm
 clear hsm
 go_enter Tryz.func224,Tryz.ntmps224
 go_wp2_with fail
 go_loopg [3] l.length (fun q i wr=>∃ j:Nat,j+q=l.length∧i=.int .i64 j∧Ext w wr∧∀ i,i < j → RgStep l i)
 case atStart=>exact ⟨0,by omega,rfl,Ext.refl _,fun i hi=>absurd hi (by omega)⟩
 case round =>
  obtain ⟨j,hj,rfl,hx,hok⟩:=hrel
  have Hok:=qh hok
  clear hok
  by_cases hlt:j < l.length
  ·obtain ⟨b,off,rfl,_,hb,h1,h2,h3⟩:=(H.out.ext hx (Nat.le_refl _)).at_ hlt
   have hbr:b < wr.heap.size:=Nat.lt_of_lt_of_le hb hx.size
   have hbr1:b < wr.heap.size+1:=by omega
   have hj0:(0:Int) ≤ (j:Int):=by omega
   have hji:(j:Int) < (l.length:Int):=by omega
   have hsz:=Hsm.out j hlt
   obtain ⟨q1,e1⟩:∃ b,B (NspOk (nspAt l j))=b:=⟨_,rfl⟩
   have Hq:=qh (show ∀ W,Calls Tryz.prog 261 #[.agg #[.string (nspAt l j).nm,.int .i64 (nspAt l j).fr,.int .i64 (nspAt l j).to]] W (RetX (.bool q1) W) from fun W=>by subst e1;exact spec_l07Reign (nspAt l j) W hsz)
   have H1:=qh e1
   clear e1
   cases q1 with
   | false =>
    go_wp2_with fail
    (refine wp_region_onto prog_mixed (by kernel_rfl) ?_;(repeat (go_big_quiet_step ((go_at_call 261;exact onto_callX (Hq.out _)))));refine onto_end ?_;intro w1 hx1)
    go_wp2_with fail
    go_ret
    exact ⟨ret_bool (B_false (fun h=>B_not.1 H1.out (h.2 j hlt).1)).symm,exts⟩
   | true =>
    by_cases h0:0 < j
    ·have hb0:decide ((0:Int) < (j:Int))=true:=by simp;omega
     obtain ⟨b', off', e,_,_,k1,k2,k3⟩:=(H.out.ext hx (Nat.le_refl _)).at_ (i:=j - 1) (by omega)
     injection e with e
     injection e with e1 e2
     subst e1 e2
     have hq0:(0:Int) ≤ (j:Int) - 1:=by omega
     have hq1:(j:Int) - 1 < (l.length:Int):=by omega
     have hq2:((j:Int) - 1).toNat=j - 1:=by omega
     by_cases hf:(nspAt l j).fr < (nspAt l (j - 1)).fr
     ·have T3:decide ((nspAt l j).fr < (nspAt l (j - 1)).fr)=true:=decide_eq_true hf
      go_wp2_with fail
      (refine wp_region_onto prog_mixed (by kernel_rfl) ?_;(repeat (go_big_quiet_step ((go_at_call 261;exact onto_callX (Hq.out _)))));refine onto_end ?_;intro w1 hx1)
      go_wp2_with fail
      go_ret
      exact ⟨ret_bool (B_false (fun h=>absurd ((h.2 j hlt).2 h0) (by omega))).symm,exts⟩
     ·have T3:decide ((nspAt l j).fr < (nspAt l (j - 1)).fr)=false:=decide_eq_false hf
      go_wp2_with fail
      (refine wp_region_onto prog_mixed (by kernel_rfl) ?_;(repeat (go_big_quiet_step ((go_at_call 261;exact onto_callX (Hq.out _)))));refine onto_end ?_;intro w1 hx1)
      go_wp2_with fail
      go_roundg (l.length - (j+1))
      case measure=>omega
      case rel=>exact ⟨j+1,by omega,by go_num,exts,rgs_step Hok.out ⟨B_iff.1 H1.out,fun _=>by omega⟩⟩
    ·have hb0:decide ((0:Int) < (j:Int))=false:=by simp;omega
     go_wp2_with fail
     (refine wp_region_onto prog_mixed (by kernel_rfl) ?_;(repeat (go_big_quiet_step ((go_at_call 261;exact onto_callX (Hq.out _)))));refine onto_end ?_;intro w1 hx1)
     go_wp2_with fail
     go_roundg (l.length - (j+1))
     case measure=>omega
     case rel=>exact ⟨j+1,by omega,by go_num,exts,rgs_step Hok.out ⟨B_iff.1 H1.out,fun hh=>absurd hh h0⟩⟩
  ·obtain rfl:j=l.length:=by omega
   have hji:¬ (l.length:Int) < (l.length:Int):=by omega
   go_wp2_with fail
   go_ret
   refine ⟨ret_bool (B_eq ?_),exts⟩
   simp only [decide_eq_true_eq]
   exact ⟨fun h=>⟨by omega,Hok.out⟩,fun h=>by have:=h.1;omega⟩
set_option maxRecDepth 100000 in
set_option maxHeartbeats 4000000 in
theorem impl_IsChancery (v:Value) (c:Chan) (w:World) (h:Nsps w 0 w.heap.size v c.rg):Calls Tryz.prog 191 #[.agg #[v,.int .i64 c.fr,.int .i64 c.to]] w (RetX (.bool (B (ChanOk c))) w):=by
 have H:=qh h
 clear h
 obtain ⟨q1,eq1⟩:∃ b,B (RgsOk c.rg)=b:=⟨_,rfl⟩
 have Hq1:=qh eq1
 clear eq1
 obtain ⟨q2,eq2⟩:∃ b,B (DayOk c.fr)=b:=⟨_,rfl⟩
 have Hq2:=qh eq2
 clear eq2
 obtain ⟨q3,eq3⟩:∃ b,B (DayOk c.to)=b:=⟨_,rfl⟩
 have Hq3:=qh eq3
 clear eq3
 go_enter Tryz.func191,Tryz.ntmps191
 go_wp2_with fail
 refine Calls.mono (impl_AreReigns v c.rg _ (H.out.up exts)) ?_
 rintro e w1 ⟨rfl,hx1⟩
 rw [Hq1.out]
 have bx:=(Boxed.new w [v,.int .i64 c.fr,.int .i64 c.to] 45).ext hx1;have bx0:=bx.at0;have bx1:=bx.at1;have bx2:=bx.at2;have bxg:=bx.1;have Hbx:=qh bx;clear bx
 cases q1 with
 | false =>
  go_wp2_with fail
  go_ret
  exact ⟨ret_bool (B_false (fun h=>absurd (h.1) (B_not.1 Hq1.out))).symm,exts⟩
 | true =>
  go_wp2_with fail
  refine Calls.mono (impl_isDay_b Hq2.out _) ?_
  rintro e w2 ⟨rfl,rfl⟩
  cases q2 with
  | false =>
   go_wp2_with fail
   go_ret
   exact ⟨ret_bool (B_false (fun h=>absurd (h.2.1) (B_not.1 Hq2.out))).symm,exts⟩
  | true =>
   go_wp2_with fail
   refine Calls.mono (impl_isDay_b Hq3.out _) ?_
   rintro e w3 ⟨rfl,rfl⟩
   cases q3 with
   | false =>
    go_wp2_with fail
    go_ret
    exact ⟨ret_bool (B_false (fun h=>absurd (h.2.2.1) (B_not.1 Hq3.out))).symm,exts⟩
   | true =>
    obtain ⟨f1,f2⟩:=B_iff.1 Hq2.out
    obtain ⟨f3,f4⟩:=B_iff.1 Hq3.out
    by_cases h4:c.fr ≤ c.to
    ·have d4:decide (c.fr ≤ c.to)=true:=decide_eq_true h4
     have W1:IntKind.i64.wrap (c.to - c.fr)=c.to - c.fr:=IntWalk.i64_in _ (by omega)
     by_cases h5:c.to - c.fr ≤ 20000
     ·have d5:decide (c.to - c.fr ≤ 20000)=true:=decide_eq_true h5
      go_wp2_with fail
      go_ret
      exact ⟨ret_bool (B_true ⟨B_iff.1 Hq1.out,B_iff.1 Hq2.out,B_iff.1 Hq3.out,h4,h5⟩).symm,exts⟩
     ·have d5:decide (c.to - c.fr ≤ 20000)=false:=decide_eq_false h5
      go_wp2_with fail
      go_ret
      exact ⟨ret_bool (B_false (fun h=>by have:=h.2.2.2.2;omega)).symm,exts⟩
    ·have d4:decide (c.fr ≤ c.to)=false:=decide_eq_false h4
     go_wp2_with fail
     go_ret
     exact ⟨ret_bool (B_false (fun h=>by have:=h.2.2.2.1;omega)).symm,exts⟩
set_option maxRecDepth 100000 in
set_option maxHeartbeats 4000000 in
theorem spec_IsChancery (v:Value) (c:Chan) (w:World) (h:Nsps w 0 w.heap.size v c.rg) (hsm:NSm c.rg):Calls Tryz.prog 183 #[.agg #[v,.int .i64 c.fr,.int .i64 c.to]] w (RetX (.bool (B (ChanOk c))) w):=by
 have H:=qh h
 clear h
 obtain ⟨q1,eq1⟩:∃ b,B (RgsOk c.rg)=b:=⟨_,rfl⟩
 have Hq1:=qh eq1
 clear eq1
 obtain ⟨q2,eq2⟩:∃ b,B (DayOk c.fr)=b:=⟨_,rfl⟩
 have Hq2:=qh eq2
 clear eq2
 obtain ⟨q3,eq3⟩:∃ b,B (DayOk c.to)=b:=⟨_,rfl⟩
 have Hq3:=qh eq3
 clear eq3
 obtain ⟨q4,eq4⟩:∃ b,B (c.fr ≤ c.to∧c.to ≤ c.fr+20000)=b:=⟨_,rfl⟩
 have Hq4:=qh eq4
 clear eq4
 go_enter Tryz.func183,Tryz.ntmps183
 go_wp2_with fail
 refine Calls.mono (spec_AreReigns v c.rg _ (H.out.up exts) hsm) ?_
 rintro e w1 ⟨rfl,hx1⟩
 rw [Hq1.out]
 have bx:=(Boxed.new w [v,.int .i64 c.fr,.int .i64 c.to] 45).ext hx1;have bx0:=bx.at0;have bx1:=bx.at1;have bx2:=bx.at2;have bxg:=bx.1;have Hbx:=qh bx;clear bx
 cases q1 with
 | false =>
  go_wp2_with fail
  go_ret
  exact ⟨ret_bool (B_false (fun h=>absurd (h.1) (B_not.1 Hq1.out))).symm,exts⟩
 | true =>
  go_wp2_with fail
  refine Calls.mono (spec_l01Day_b Hq2.out _) ?_
  rintro e w2 ⟨rfl,rfl⟩
  cases q2 with
  | false =>
   go_wp2_with fail
   go_ret
   exact ⟨ret_bool (B_false (fun h=>absurd (h.2.1) (B_not.1 Hq2.out))).symm,exts⟩
  | true =>
   go_wp2_with fail
   refine Calls.mono (spec_l01Day_b Hq3.out _) ?_
   rintro e w3 ⟨rfl,rfl⟩
   cases q3 with
   | false =>
    go_wp2_with fail
    go_ret
    exact ⟨ret_bool (B_false (fun h=>absurd (h.2.2.1) (B_not.1 Hq3.out))).symm,exts⟩
   | true =>
    obtain ⟨f1,f2⟩:=B_iff.1 Hq2.out
    obtain ⟨f3,f4⟩:=B_iff.1 Hq3.out
    have W1:IntKind.i64.wrap (c.fr+20000)=c.fr+20000:=IntWalk.i64_in _ (by omega)
    go_wp2_with fail
    refine Calls.mono (spec_l01In_k Hq4.out _) ?_
    rintro e w4 ⟨rfl,rfl⟩
    cases q4 with
    | false =>
     go_wp2_with fail
     go_ret
     exact ⟨ret_bool (B_false (fun h=>absurd (show c.fr ≤ c.to∧c.to ≤ c.fr+20000 from ⟨h.2.2.2.1,by have:=h.2.2.2.2;omega⟩) (B_not.1 Hq4.out))).symm,exts⟩
    | true =>
     obtain ⟨g1,g2⟩:=B_iff.1 Hq4.out
     go_wp2_with fail
     go_ret
     exact ⟨ret_bool (B_true ⟨B_iff.1 Hq1.out,B_iff.1 Hq2.out,B_iff.1 Hq3.out,g1,by omega⟩).symm,exts⟩
set_option maxRecDepth 100000 in
set_option maxHeartbeats 16000000 in
theorem spec_IsPeople (v u:Value) (P:Ppl) (w:World) (hp:Nsps w 0 w.heap.size v P.ps) (ht:Trms w 0 w.heap.size u P.tm) (hsm:NSm P.ps) (hst:∀ i,i < P.tm.length → (trmAt P.tm i).of.size ≤ 1048576):Calls Tryz.prog 184 #[.agg #[v,u]] w (RetX (.bool (B (PplOk P))) w):=by
 obtain ⟨Ap,cp,rfl,_,hcp⟩:=hp.len
 obtain ⟨At,ct,rfl,_,hct⟩:=ht.len
 have Hp:=qh hp
 have Ht:=qh ht
 clear hp ht
 have Hsm:=qh hsm
 have Hst:=qh hst
 clear hsm hst
 have Hb:=qh (Boxed.new w [.slice Ap P.ps.length cp,.slice At P.tm.length ct] 49)
 go_enter Tryz.func184,Tryz.ntmps184
 go_wp2_with fail
 go_loopg [3,4] P.ps.length (fun q i u4 wr=>∃ j:Nat,j+q=P.ps.length∧i=.int .i64 j∧Ext (w.alloc (.cells #[.slice Ap P.ps.length cp,.slice At P.tm.length ct] 49)) wr∧∀ i,i < j → PsStep P.ps i)
 case atStart=>exact ⟨0,by omega,rfl,exts,fun i hi=>absurd hi (by omega)⟩
 case round =>
  obtain ⟨j,hj,rfl,hx0,hok⟩:=hrel
  have Hok:=qh hok
  clear hok
  have hx:Ext w wr:=exts
  have bx:=Hb.out.ext hx0;have bx0:=bx.at0;have bx1:=bx.at1;have bxg:=bx.1;have Hbx:=qh bx;clear bx
  have bxg1:w.heap.size < wr.heap.size+1:=by omega
  have hj0:(0:Int) ≤ (j:Int):=by omega
  by_cases hlt:j < P.ps.length
  ·obtain ⟨b,off,rfl,_,hb,h1,h2,h3⟩:=(Hp.out.ext hx (Nat.le_refl _)).at_ hlt
   have hbr:b < wr.heap.size:=Nat.lt_of_lt_of_le hb hx.size
   have hbr1:b < wr.heap.size+1:=by omega
   have hji:(j:Int) < (P.ps.length:Int):=by omega
   have hsz:=Hsm.out j hlt
   obtain ⟨q1,eq1⟩:∃ b,B (NameOk (nspAt P.ps j).nm 12)=b:=⟨_,rfl⟩
   have Hq1:=qh eq1
   clear eq1
   obtain ⟨q2,eq2⟩:∃ b,B (SpOk ⟨(nspAt P.ps j).fr,(nspAt P.ps j).to⟩)=b:=⟨_,rfl⟩
   have Hq2:=qh eq2
   clear eq2
   cases q1 with
   | false =>
    go_wp2_with fail
    (refine wp_region_onto prog_mixed (by kernel_rfl) ?_;(repeat (go_big_quiet_step ((first | (go_at_call 187;exact onto_callS (spec_l01Name_b Hq1.out _ (by omega))) | (go_at_call 226;exact onto_callX (spec_l13Span_b Hq2.out _))))));refine onto_end ?_;intro w1 hx1)
    go_wp2_with fail
    go_ret
    exact ⟨ret_bool (B_false (fun h=>B_not.1 Hq1.out (by have h1:=(h.2.2.1 j hlt).1;exact h1.1))).symm,exts⟩
   | true =>
    cases q2 with
    | false =>
     go_wp2_with fail
     (refine wp_region_onto prog_mixed (by kernel_rfl) ?_;(repeat (go_big_quiet_step ((first | (go_at_call 187;exact onto_callS (spec_l01Name_b Hq1.out _ (by omega))) | (go_at_call 226;exact onto_callX (spec_l13Span_b Hq2.out _))))));refine onto_end ?_;intro w1 hx1)
     go_wp2_with fail
     go_ret
     exact ⟨ret_bool (B_false (fun h=>B_not.1 Hq2.out (by have h1:=(h.2.2.1 j hlt).1;exact h1.2))).symm,exts⟩
    | true =>
     have Hn:=qh (show NspOk (nspAt P.ps j) from ⟨B_iff.1 Hq1.out,B_iff.1 Hq2.out⟩)
     by_cases h0:0 < j
     ·have hb0:decide ((0:Int) < (j:Int))=true:=by simp;omega
      obtain ⟨b', off', e,_,_,k1,k2,k3⟩:=(Hp.out.ext hx (Nat.le_refl _)).at_ (i:=j - 1) (by omega)
      injection e with e
      injection e with e1 e2
      subst e1 e2
      have hq0:(0:Int) ≤ (j:Int) - 1:=by omega
      have hq1:(j:Int) - 1 < (P.ps.length:Int):=by omega
      have hq2:((j:Int) - 1).toNat=j - 1:=by omega
      by_cases hs:sLt (nspAt P.ps (j - 1)).nm (nspAt P.ps j).nm
      ·have T1:=sl_false (sLt_asym hs)
       have T2:=str_ne (fun e=>sLt_ne hs e.symm)
       have Hs:=qh hs
       clear hs
       go_wp2_with fail
       (refine wp_region_onto prog_mixed (by kernel_rfl) ?_;(repeat (go_big_quiet_step ((first | (go_at_call 187;exact onto_callS (spec_l01Name_b Hq1.out _ (by omega))) | (go_at_call 226;exact onto_callX (spec_l13Span_b Hq2.out _))))));refine onto_end ?_;intro w1 hx1)
       go_wp2_with fail
       go_roundg (P.ps.length - (j+1))
       case measure=>omega
       case rel=>exact ⟨j+1,by omega,by go_num,exts,ps_step Hok.out ⟨Hn.out,fun _=>Hs.out⟩⟩
      ·by_cases hs2:sLt (nspAt P.ps j).nm (nspAt P.ps (j - 1)).nm
       ·have T1:=sl_true hs2
        have Hs:=qh hs
        clear hs hs2
        go_wp2_with fail
        (refine wp_region_onto prog_mixed (by kernel_rfl) ?_;(repeat (go_big_quiet_step ((first | (go_at_call 187;exact onto_callS (spec_l01Name_b Hq1.out _ (by omega))) | (go_at_call 226;exact onto_callX (spec_l13Span_b Hq2.out _))))));refine onto_end ?_;intro w1 hx1)
        go_wp2_with fail
        go_ret
        exact ⟨ret_bool (B_false (fun h=>Hs.out ((h.2.2.1 j hlt).2 h0))).symm,exts⟩
       ·have T1:=sl_false hs2
        have T2:=str_is (sLt_tri hs2 hs)
        have Hs:=qh hs
        clear hs hs2
        go_wp2_with fail
        (refine wp_region_onto prog_mixed (by kernel_rfl) ?_;(repeat (go_big_quiet_step ((first | (go_at_call 187;exact onto_callS (spec_l01Name_b Hq1.out _ (by omega))) | (go_at_call 226;exact onto_callX (spec_l13Span_b Hq2.out _))))));refine onto_end ?_;intro w1 hx1)
        go_wp2_with fail
        go_ret
        exact ⟨ret_bool (B_false (fun h=>Hs.out ((h.2.2.1 j hlt).2 h0))).symm,exts⟩
     ·have hb0:decide ((0:Int) < (j:Int))=false:=by simp;omega
      go_wp2_with fail
      (refine wp_region_onto prog_mixed (by kernel_rfl) ?_;(repeat (go_big_quiet_step ((first | (go_at_call 187;exact onto_callS (spec_l01Name_b Hq1.out _ (by omega))) | (go_at_call 226;exact onto_callX (spec_l13Span_b Hq2.out _))))));refine onto_end ?_;intro w1 hx1)
      go_wp2_with fail
      go_roundg (P.ps.length - (j+1))
      case measure=>omega
      case rel=>exact ⟨j+1,by omega,by go_num,exts,ps_step Hok.out ⟨Hn.out,fun hh=>absurd hh h0⟩⟩
  ·obtain rfl:j=P.ps.length:=by omega
   have hji:¬ (P.ps.length:Int) < (P.ps.length:Int):=by omega
   have Hps:=qh (show ∀ i,i < P.ps.length → PsStep P.ps i from Hok.out)
   clear hlt bxg1
   obtain ⟨wz,rfl⟩:∃ x:World,x=wr:=⟨_,rfl⟩
   go_wp2_with fail
   go_loopg [5,6,7] P.tm.length (fun q i u6 u7 wr=>∃ j:Nat,j+q=P.tm.length∧i=.int .i64 j∧Ext wz wr∧∀ i,i < j → TrmOk P.ps (trmAt P.tm i))
   case atStart=>exact ⟨0,by omega,rfl,exts,fun i hi=>absurd hi (by omega)⟩
   case round =>
    obtain ⟨j,hj,rfl,hxz,hok⟩:=hrel
    have Htm:=qh hok
    clear hok bx0 bx1 bxg
    have hx2:Ext w wr:=exts
    have bx:=Hbx.out.ext hxz
    have bx0:=bx.at0
    have bx1:=bx.at1
    have bxg:=bx.1
    have Hby:=qh bx
    clear bx
    have bxg1:w.heap.size < wr.heap.size+1:=by omega
    have hj0:(0:Int) ≤ (j:Int):=by omega
    by_cases hlt:j < P.tm.length
    ·obtain ⟨b,off,rfl,_,hb,h1,h2,h3,h4⟩:=(Ht.out.ext hx2 (Nat.le_refl _)).at_ hlt
     have hbr:b < wr.heap.size:=Nat.lt_of_lt_of_le hb hx2.size
     have hbr1:b < wr.heap.size+1:=by omega
     have hji:(j:Int) < (P.tm.length:Int):=by omega
     have hsz:=Hst.out j hlt
     go_wp2_with fail
     refine Calls.mono (spec_l13Person _ _ P.ps (trmAt P.tm j).pe _ (Hp.out.up exts)) ?_
     rintro e w3 ⟨rfl,hx3⟩
     have bt:=(Boxed.new wr [.string (trmAt P.tm j).of,.string (trmAt P.tm j).pe,.int .i64 (trmAt P.tm j).fr,.int .i64 (trmAt P.tm j).to] 228).ext hx3;have bt0:=bt.at0;have bt1:=bt.at1;have bt2:=bt.at2;have bt3:=bt.at3;have btg:=bt.1;have Hbt:=qh bt;clear bt
     have hxr3:Ext wr w3:=exts
     clear bx0 bx1 bxg bxg1
     have bx:=Hby.out.ext hxr3
     have bx0:=bx.at0
     have bx1:=bx.at1
     have bxg:=bx.1
     clear bx
     have hx3w:Ext w w3:=hx2.trans hxr3
     clear h1 h2 h3 h4 hbr hbr1
     obtain ⟨k,hk⟩:∃ k,psIx P.ps (trmAt P.tm j).pe=k:=⟨_,rfl⟩
     have Hk:=qh hk
     rw [hk]
     obtain ⟨q1,eq1⟩:∃ b,B (NameOk (trmAt P.tm j).of 12)=b:=⟨_,rfl⟩
     have Hq1:=qh eq1
     clear eq1
     obtain ⟨q2,eq2⟩:∃ b,B (SpOk ⟨(trmAt P.tm j).fr,(trmAt P.tm j).to⟩)=b:=⟨_,rfl⟩
     have Hq2:=qh eq2
     clear eq2
     cases q1 with
     | false =>
      go_wp2_with fail
      (refine wp_region_onto prog_mixed (by kernel_rfl) ?_;(repeat (go_big_quiet_step ((first | (go_at_call 187;exact onto_callS (spec_l01Name_b Hq1.out _ (by omega))) | (go_at_call 226;exact onto_callX (spec_l13Span_b Hq2.out _))))));refine onto_end ?_;intro w1 hx1)
      go_wp2_with fail
      go_ret
      exact ⟨ret_bool (B_false (fun h=>by have hh:=h.2.2.2 j hlt;rw [TrmOk,Hk.out] at hh;exact B_not.1 Hq1.out hh.2.1)).symm,exts⟩
     | true =>
      by_cases hk0:0 ≤ k
      case neg =>
       have dk:decide (k < 0)=true:=decide_eq_true (by omega)
       go_wp2_with fail
       (refine wp_region_onto prog_mixed (by kernel_rfl) ?_;(repeat (go_big_quiet_step ((first | (go_at_call 187;exact onto_callS (spec_l01Name_b Hq1.out _ (by omega))) | (go_at_call 226;exact onto_callX (spec_l13Span_b Hq2.out _))))));refine onto_end ?_;intro w1 hx1)
       go_wp2_with fail
       go_ret
       exact ⟨ret_bool (B_false (fun h=>by have hh:=h.2.2.2 j hlt;rw [TrmOk,Hk.out] at hh;exact by have:=hh.1;omega)).symm,exts⟩
      have dk:decide (k < 0)=false:=decide_eq_false (by omega)
      have hkl:=psIx_lt (l:=P.ps) (name:=(trmAt P.tm j).pe) (by rw [hk];exact hk0)
      rw [hk] at hkl
      obtain ⟨hkl,hke⟩:=hkl
      have hklt:k < (P.ps.length:Int):=by omega
      obtain ⟨bp,op,e,_,hbp,k1,k2,k3⟩:=(Hp.out.ext hx3w (Nat.le_refl _)).at_ (i:=k.toNat) hkl
      subst e
      have hbpr:bp < w3.heap.size:=Nat.lt_of_lt_of_le hbp hx3w.size
      have Hday:=qh (fun (h1:(trmAt P.tm j).fr ≤ (trmAt P.tm j).to) (h2:(nspAt P.ps k.toNat).fr ≤ (trmAt P.tm j).fr) (h3:(trmAt P.tm j).to ≤ (nspAt P.ps k.toNat).to)=>show SpOk ⟨(trmAt P.tm j).fr,(trmAt P.tm j).to⟩ from by
       obtain ⟨⟨_,⟨d1,d2⟩,⟨d3,d4⟩,_⟩,_⟩:=Hps.out _ hkl
       exact ⟨⟨by show (0:Int) ≤ (trmAt P.tm j).fr;omega,by show (trmAt P.tm j).fr ≤ 730499;omega⟩,⟨by show (0:Int) ≤ (trmAt P.tm j).to;omega,by show (trmAt P.tm j).to ≤ 730499;omega⟩,h1⟩)
      cases q2 with
      | false =>
       go_wp2_with fail
       (refine wp_region_onto prog_mixed (by kernel_rfl) ?_;(repeat (go_big_quiet_step ((first | (go_at_call 187;exact onto_callS (spec_l01Name_b Hq1.out _ (by omega))) | (go_at_call 226;exact onto_callX (spec_l13Span_b Hq2.out _))))));refine onto_end ?_;intro w1 hx1)
       go_wp2_with fail
       go_ret
       exact ⟨ret_bool (B_false (fun h=>by have hh:=h.2.2.2 j hlt;rw [TrmOk,Hk.out] at hh;exact B_not.1 Hq2.out (Hday.out hh.2.2.1 hh.2.2.2.1 hh.2.2.2.2))).symm,exts⟩
      | true =>
       have h5:(trmAt P.tm j).fr ≤ (trmAt P.tm j).to:=(B_iff.1 Hq2.out).2.2
       by_cases h6:(nspAt P.ps k.toNat).fr ≤ (trmAt P.tm j).fr
       case neg =>
        have d6:decide ((trmAt P.tm j).fr < (nspAt P.ps k.toNat).fr)=true:=decide_eq_true (by omega)
        go_wp2_with fail
        (refine wp_region_onto prog_mixed (by kernel_rfl) ?_;(repeat (go_big_quiet_step ((first | (go_at_call 187;exact onto_callS (spec_l01Name_b Hq1.out _ (by omega))) | (go_at_call 226;exact onto_callX (spec_l13Span_b Hq2.out _))))));refine onto_end ?_;intro w1 hx1)
        go_wp2_with fail
        go_ret
        exact ⟨ret_bool (B_false (fun h=>by have hh:=h.2.2.2 j hlt;rw [TrmOk,Hk.out] at hh;exact by have:=hh.2.2.2.1;omega)).symm,exts⟩
       have d6:decide ((trmAt P.tm j).fr < (nspAt P.ps k.toNat).fr)=false:=decide_eq_false (by omega)
       by_cases h7:(trmAt P.tm j).to ≤ (nspAt P.ps k.toNat).to
       case neg =>
        have d7:decide ((nspAt P.ps k.toNat).to < (trmAt P.tm j).to)=true:=decide_eq_true (by omega)
        go_wp2_with fail
        (refine wp_region_onto prog_mixed (by kernel_rfl) ?_;(repeat (go_big_quiet_step ((first | (go_at_call 187;exact onto_callS (spec_l01Name_b Hq1.out _ (by omega))) | (go_at_call 226;exact onto_callX (spec_l13Span_b Hq2.out _))))));refine onto_end ?_;intro w1 hx1)
        go_wp2_with fail
        go_ret
        exact ⟨ret_bool (B_false (fun h=>by have hh:=h.2.2.2 j hlt;rw [TrmOk,Hk.out] at hh;exact by have:=hh.2.2.2.2;omega)).symm,exts⟩
       have d7:decide ((nspAt P.ps k.toNat).to < (trmAt P.tm j).to)=false:=decide_eq_false (by omega)
       have Hn:=qh (show TrmOk P.ps (trmAt P.tm j) from by rw [TrmOk,Hk.out];exact ⟨hk0,B_iff.1 Hq1.out,h5,h6,h7⟩)
       go_wp2_with fail
       (refine wp_region_onto prog_mixed (by kernel_rfl) ?_;(repeat (go_big_quiet_step ((first | (go_at_call 187;exact onto_callS (spec_l01Name_b Hq1.out _ (by omega))) | (go_at_call 226;exact onto_callX (spec_l13Span_b Hq2.out _))))));refine onto_end ?_;intro w1 hx1)
       go_wp2_with fail
       go_roundg (P.tm.length - (j+1))
       case measure=>omega
       case rel=>exact ⟨j+1,by omega,by go_num,(hxz.trans hxr3).trans exts,fun i hi=>by
        by_cases e:i=j
        ·rw [e];exact Hn.out
        ·exact Htm.out i (by omega)⟩
    ·obtain rfl:j=P.tm.length:=by omega
     have hji:¬ (P.tm.length:Int) < (P.tm.length:Int):=by omega
     clear hlt
     by_cases hl1:P.ps.length ≤ 40
     case neg =>
      have d1:decide ((P.ps.length:Int) ≤ 40)=false:=decide_eq_false (by omega)
      go_wp2_with fail
      go_ret
      exact ⟨ret_bool (B_false (fun h=>by have:=h.1;omega)).symm,exts⟩
     have d1:decide ((P.ps.length:Int) ≤ 40)=true:=decide_eq_true (by omega)
     by_cases hl2:P.tm.length ≤ 60
     case neg =>
      have d2:decide ((P.tm.length:Int) ≤ 60)=false:=decide_eq_false (by omega)
      go_wp2_with fail
      go_ret
      exact ⟨ret_bool (B_false (fun h=>by have:=h.2.1;omega)).symm,exts⟩
     have d2:decide ((P.tm.length:Int) ≤ 60)=true:=decide_eq_true (by omega)
     go_wp2_with fail
     go_ret
     exact ⟨ret_bool (B_true ⟨hl1,hl2,Hps.out,Htm.out⟩).symm,exts⟩
theorem impl_within_k {n lo hi:Int} {b:Bool} (hb:B (lo ≤ n∧n ≤ hi)=b) (w:World):Calls Tryz.prog 52 #[.int .i64 n,.int .i64 lo,.int .i64 hi] w (RetS (.bool b) w):=by
 subst hb;exact impl_within n lo hi w
theorem Strs.take {w:World} {lo hi:Nat} {b off:Nat} {c j:Nat} {l:List ByteArray} (h:Strs w lo hi (.slice (some ⟨b,off,none⟩) l.length c) l) (hj:j ≤ l.length):Strs w lo hi (.slice (some ⟨b,off,none⟩) j c) (l.take j):=by
 obtain ⟨hm,A', c', e,hc,hr⟩:=h
 injection e with e1 e2 e3
 subst e3
 have hlen:(l.take j).length=j:=by rw [List.length_take];omega
 unfold Strs
 rw [hlen]
 refine ⟨by omega,some ⟨b,off,none⟩,c,rfl,by omega,fun h0=>?_⟩
 obtain ⟨b', off', hA,h1,h2,h3⟩:=hr (by omega)
 rw [← e1] at hA
 injection hA with hA
 injection hA with hA hO
 subst hA hO
 refine ⟨b,off,rfl,h1,h2,fun i hi=>?_⟩
 rw [h3 i (by omega)]
 unfold strCell strAt
 rw [List.getD_eq_getElem?_getD,List.getD_eq_getElem?_getD,List.getElem?_take,if_pos (by omega)]
theorem dup_iff {l:List ByteArray} {j:Nat} (hj:j ≤ l.length):0 ≤ fstIx (fun i=>strAt (l.take j) i=strAt l j) (l.take j).length ↔ ¬ ∀ k,k < j → strAt l k ≠ strAt l j:=by
 have hlen:(l.take j).length=j:=by rw [List.length_take];omega
 rw [hlen]
 have hc:fstIx (fun i=>strAt (l.take j) i=strAt l j) j=fstIx (fun i=>strAt l i=strAt l j) j:=fstIx_congr j (fun i hi=>by
  have e:strAt (l.take j) i=strAt l i:=by
   unfold strAt
   rw [List.getD_eq_getElem?_getD,List.getD_eq_getElem?_getD,List.getElem?_take,if_pos hi]
  rw [e])
 rw [hc]
 rcases fstIx_cases (fun i=>strAt l i=strAt l j) j with ⟨h1,h2⟩ | ⟨k,h1,h2,h3,h4⟩
 ·rw [h1]
  exact ⟨fun h=>by omega,fun h=>absurd (fun k hk=>h2 k hk) h⟩
 ·rw [h2]
  exact ⟨fun _ h=>h k h1 h3,fun _=>by omega⟩
set_option maxHeartbeats 400000 in
theorem indexFunc_ways (v:Value) (l:List Wy) (g:Nat) (caps:Array Value) (p:Nat → Prop) (w:World) (h:Wys w 0 w.heap.size v l)
  (hg:∀ (args:Array Value) (w:World),(callFunc g args).run Tryz.prog w=.ok (.enter g args) w)
  (hf:∀ (i:Nat) (w' : World),i < l.length → Ext w w' → Calls Tryz.prog g (#[.agg #[.int .i64 (wyAt l i).a,.int .i64 (wyAt l i).b,.int .i64 (wyAt l i).d]] ++ caps) w' (RetX (.bool (B (p i))) w')) :
  Calls Tryz.prog 313 #[v,.func (.func g) #[] caps] w (RetIdx l.length p w):=by
 obtain ⟨A,c,rfl,hn,hc⟩:=h.len
 have H:=qh h
 have Hf:=qh hf
 clear h hf
 go_enter Tryz.func313,Tryz.ntmps313
 go_wp2_with fail
 go_loopg [8] l.length (fun k i wr=>∃ j:Nat,j+k=l.length∧i=.int .i64 j∧Ext w wr∧∀ i,i < j → ¬ p i)
 case atStart=>exact ⟨0,by omega,rfl,Ext.refl _,fun i hi=>absurd hi (by omega)⟩
 case round =>
  obtain ⟨j,hj,rfl,hx,hok⟩:=hrel
  have Hok:=qh hok
  clear hok
  by_cases hlt:j < l.length
  ·obtain ⟨b,off,rfl,_,hb,h1,h2,h3⟩:=(H.out.ext hx (Nat.le_refl _)).at_ hlt
   go_wp2_with fail
   refine (Hf.out j wr hlt hx).mono ?_
   rintro e w1 ⟨rfl,hx1⟩
   go_wp2_with fail
   ·go_ret
    exact ⟨j,rfl,exts,.inr ⟨by omega,j,hlt,B_iff.1 (by assumption)⟩⟩
   ·go_roundg (l.length - (j+1))
    case measure=>omega
    case rel =>
     refine ⟨j+1,by omega,by go_num,exts,fun i hi=>?_⟩
     by_cases e:i=j
     ·rw [e]
      exact B_not.1 (by first | assumption | (simp only [← Bool.not_eq_true];assumption))
     ·exact Hok.out i (by omega)
  ·obtain rfl:j=l.length:=by omega
   go_wp2_with fail
   go_ret
   exact ⟨-1,rfl,exts,.inl ⟨rfl,Hok.out⟩⟩
set_option maxHeartbeats 400000 in
theorem containsFunc_ways (v:Value) (l:List Wy) (g:Nat) (caps:Array Value) (p:Nat → Prop) (w:World) (h:Wys w 0 w.heap.size v l)
  (hg:∀ (args:Array Value) (w:World),(callFunc g args).run Tryz.prog w=.ok (.enter g args) w)
  (hf:∀ (i:Nat) (w' : World),i < l.length → Ext w w' → Calls Tryz.prog g (#[.agg #[.int .i64 (wyAt l i).a,.int .i64 (wyAt l i).b,.int .i64 (wyAt l i).d]] ++ caps) w' (RetX (.bool (B (p i))) w')) :
  Calls Tryz.prog 270 #[v,.func (.func g) #[] caps] w (RetX (.bool (B (Some_ l.length p))) w):=by
 have H:=qh (indexFunc_ways v l g caps p w h hg hf)
 clear h hf hg
 go_enter Tryz.func270,Tryz.ntmps270
 go_wp2_with fail
 refine H.out.mono ?_
 rintro e w1 ⟨r,rfl,hx,hr⟩
 have Hr:=qh hr
 clear hr
 go_wp2_with fail
 go_ret
 refine ⟨ret_bool (B_eq ?_),exts⟩
 simp only [decide_eq_true_eq]
 constructor
 ·intro h
  rcases Hr.out with ⟨h1,_⟩ | ⟨_,h2⟩
  ·omega
  ·exact h2
 ·rintro ⟨i,h1,h2⟩
  rcases Hr.out with ⟨_,h3⟩ | ⟨h3,_⟩
  ·exact absurd h2 (h3 i h1)
  ·omega
set_option maxHeartbeats 1000000 in
theorem impl_isPlace (A:Option Addr) (n c:Nat) (u:Value) (x:Int) (w:World) (hn:n ≤ 9223372036854775807):Calls Tryz.prog 272 #[.agg #[.slice A n c,u],.int .i64 x] w (RetX (.bool (B (0 ≤ x∧x ≤ (n:Int) - 1))) w):=by
 have W1:IntKind.i64.wrap ((n:Int) - 1)=(n:Int) - 1:=IntWalk.i64_in _ (by omega)
 go_enter Tryz.func272,Tryz.ntmps272
 go_wp2_with fail
 refine Calls.mono (impl_within x 0 ((n:Int) - 1) _) ?_
 rintro e w1 ⟨rfl,rfl⟩
 go_wp2_with fail
 go_ret
 exact ⟨rfl,exts⟩
theorem impl_isPlace_b {x:Int} {n:Nat} {b:Bool} (hb:B (0 ≤ x∧x ≤ (n:Int) - 1)=b) (A:Option Addr) (c:Nat) (u:Value) (w:World) (hn:n ≤ 9223372036854775807):Calls Tryz.prog 272 #[.agg #[.slice A n c,u],.int .i64 x] w (RetX (.bool b) w):=by
 subst hb;exact impl_isPlace A n c u x w hn
set_option maxRecDepth 100000 in
set_option maxHeartbeats 4000000 in
theorem impl_IsLand_1 (x:Wy) (g:Nat) (A:Option Addr) (n c:Nat) (u:Value) (w:World) (hn:n ≤ 9223372036854775807) (hg:g < w.heap.size) (hc0:w.cell? ⟨g,0,none⟩=some (.slice A n c)) (hc1:w.cell? ⟨g,1,none⟩=some u) :
  Calls Tryz.prog 271 #[.agg #[.int .i64 x.a,.int .i64 x.b,.int .i64 x.d],.pointer (some ⟨g,0,none⟩)] w (RetX (.bool (B (¬ WyOk n x))) w):=by
 obtain ⟨q1,eq1⟩:∃ b,B (0 ≤ x.a∧x.a ≤ (n:Int) - 1)=b:=⟨_,rfl⟩
 have Hq1:=qh eq1
 clear eq1
 obtain ⟨q2,eq2⟩:∃ b,B (0 ≤ x.b∧x.b ≤ (n:Int) - 1)=b:=⟨_,rfl⟩
 have Hq2:=qh eq2
 clear eq2
 obtain ⟨q3,eq3⟩:∃ b,B (1 ≤ x.d∧x.d ≤ 60)=b:=⟨_,rfl⟩
 have Hq3:=qh eq3
 clear eq3
 have hg1:g < w.heap.size+1:=by omega
 have Hg:=qh (And.intro hg (And.intro hc0 hc1))
 go_enter Tryz.func271,Tryz.ntmps271
 go_wp2_with fail
 refine Calls.mono (impl_isPlace_b Hq1.out _ _ _ _ hn) ?_
 rintro e w1 ⟨rfl,hx1⟩
 have bx:=(Boxed.new w [.int .i64 x.a,.int .i64 x.b,.int .i64 x.d] 231).ext hx1;have bx0:=bx.at0;have bx1:=bx.at1;have bx2:=bx.at2;have bxg:=bx.1;have Hbx:=qh bx;clear bx
 have hxw1:Ext w w1:=exts
 obtain ⟨g1,g2,g3⟩:=Hg.out
 have m0:=(hxw1.cell (p:=⟨g,0,none⟩) g1).trans g2
 have m1:=(hxw1.cell (p:=⟨g,1,none⟩) g1).trans g3
 clear hc0 hc1 g1 g2 g3 hg hg1
 cases q1 with
 | false =>
  go_wp2_with fail
  go_ret
  exact ⟨ret_bool (B_true (fun h=>absurd (h.1) (B_not.1 Hq1.out))).symm,exts⟩
 | true =>
  go_wp2_with fail
  refine Calls.mono (impl_isPlace_b Hq2.out _ _ _ _ hn) ?_
  rintro e w2 ⟨rfl,hx2⟩
  clear bx0 bx1 bx2 bxg
  have bx:=Hbx.out.ext hx2
  have bx0:=bx.at0
  have bx1:=bx.at1
  have bx2:=bx.at2
  have bxg:=bx.1
  clear bx
  cases q2 with
  | false =>
   go_wp2_with fail
   go_ret
   exact ⟨ret_bool (B_true (fun h=>absurd (h.2.1) (B_not.1 Hq2.out))).symm,exts⟩
  | true =>
   by_cases h4:x.a=x.b
   case pos =>
    have d4:decide (x.a=x.b)=true:=decide_eq_true h4
    have d5:(x.a == x.b)=true:=by simpa using h4
    have H4:=qh h4
    clear h4
    go_wp2_with fail
    go_ret
    exact ⟨ret_bool (B_true (fun h=>h.2.2.1 H4.out)).symm,exts⟩
   have d4:decide (x.a=x.b)=false:=decide_eq_false h4
   have d5:(x.a == x.b)=false:=by simpa using h4
   have H4:=qh h4
   clear h4
   go_wp2_with fail
   refine Calls.mono (impl_within_k Hq3.out _) ?_
   rintro e w3 ⟨rfl,rfl⟩
   cases q3 with
   | false =>
    go_wp2_with fail
    go_ret
    exact ⟨ret_bool (B_true (fun h=>absurd (h.2.2.2) (B_not.1 Hq3.out))).symm,exts⟩
   | true =>
    go_wp2_with fail
    go_ret
    exact ⟨ret_bool (B_false (fun h=>h ⟨B_iff.1 Hq1.out,B_iff.1 Hq2.out,H4.out,B_iff.1 Hq3.out⟩)).symm,exts⟩
set_option maxRecDepth 100000 in
set_option maxHeartbeats 16000000 in
theorem impl_IsLand (v u:Value) (L:Lnd) (w:World) (hp:Strs w 0 w.heap.size v L.pl) (ht:Wys w 0 w.heap.size u L.wy):Calls Tryz.prog 232 #[.agg #[v,u]] w (RetX (.bool (B (LndOk L))) w):=by
 obtain ⟨Ap,cp,rfl,hnp,hcp⟩:=hp.len
 obtain ⟨At,ct,rfl,hnt,hct⟩:=ht.len
 have Hp:=qh hp
 have Ht:=qh ht
 clear hp ht
 have Hb:=qh (Boxed.new w [.slice Ap L.pl.length cp,.slice At L.wy.length ct] 52)
 by_cases hl1:1 ≤ L.pl.length
 case neg =>
  have d1:decide ((L.pl.length:Int) < 1)=true:=decide_eq_true (by omega)
  go_enter Tryz.func232,Tryz.ntmps232
  go_wp2_with fail
  go_ret
  exact ⟨ret_bool (B_false (fun h=>by have:=h.1.1;omega)).symm,exts⟩
 have d1:decide ((L.pl.length:Int) < 1)=false:=decide_eq_false (by omega)
 by_cases hl2:L.pl.length ≤ 12
 case neg =>
  have d2:decide ((12:Int) < (L.pl.length:Int))=true:=decide_eq_true (by omega)
  go_enter Tryz.func232,Tryz.ntmps232
  go_wp2_with fail
  go_ret
  exact ⟨ret_bool (B_false (fun h=>by have:=h.1.2;omega)).symm,exts⟩
 have d2:decide ((12:Int) < (L.pl.length:Int))=false:=decide_eq_false (by omega)
 by_cases hl3:L.wy.length ≤ 40
 case neg =>
  have d3:decide ((40:Int) < (L.wy.length:Int))=true:=decide_eq_true (by omega)
  go_enter Tryz.func232,Tryz.ntmps232
  go_wp2_with fail
  go_ret
  exact ⟨ret_bool (B_false (fun h=>by have:=h.2.1;omega)).symm,exts⟩
 have d3:decide ((40:Int) < (L.wy.length:Int))=false:=decide_eq_false (by omega)
 go_enter Tryz.func232,Tryz.ntmps232
 go_wp2_with fail
 go_loopg [3,4,24] L.pl.length (fun q u3 u4 i wr=>∃ j:Nat,j+q=L.pl.length∧i=.int .i64 j∧Ext (w.alloc (.cells #[.slice Ap L.pl.length cp,.slice At L.wy.length ct] 52)) wr∧∀ i,i < j → PlStep L.pl i)
 case atStart=>exact ⟨0,by omega,rfl,exts,fun i hi=>absurd hi (by omega)⟩
 case round =>
  obtain ⟨j,hj,rfl,hx0,hok⟩:=hrel
  have Hok:=qh hok
  clear hok
  have hx:Ext w wr:=exts
  have bx:=Hb.out.ext hx0;have bx0:=bx.at0;have bx1:=bx.at1;have bxg:=bx.1;have Hbx:=qh bx;clear bx
  have hj0:(0:Int) ≤ (j:Int):=by omega
  by_cases hlt:j < L.pl.length
  ·obtain ⟨b,off,eA,_,hb,h1⟩:=(Hp.out.ext hx (Nat.le_refl _)).at_ hlt
   have Hrow:=qh (Hp.out.ext hx (Nat.le_refl _))
   subst eA
   have Htk:=qh (Strs.take Hrow.out (Nat.le_of_lt hlt))
   clear Hrow
   have hbr:b < wr.heap.size:=Nat.lt_of_lt_of_le hb hx.size
   have hji:(j:Int) < (L.pl.length:Int):=by omega
   have hjl:(j:Int) ≤ (L.pl.length:Int):=by omega
   have hjc:(j:Int) ≤ (cp:Int):=by omega
   have hjc2:j ≤ cp:=by omega
   obtain ⟨q1,eq1⟩:∃ b,B (NameOk (strAt L.pl j) 12)=b:=⟨_,rfl⟩
   have Hq1:=qh eq1
   clear eq1
   obtain ⟨r,er⟩:∃ r,fstIx (fun i=>strAt (L.pl.take j) i=strAt L.pl j) (L.pl.take j).length=r:=⟨_,rfl⟩
   have Hdup:=qh (dup_iff (l:=L.pl) (j:=j) (Nat.le_of_lt hlt))
   rw [er] at Hdup
   have Hr:=qh er
   clear er
   have Hct:=qh (fun W (hX:Ext wr W)=>show Calls Tryz.prog 199 #[.slice (some ⟨b,off,none⟩) j cp,.string (strAt L.pl j)] W (RetX (.bool (B (0 ≤ r))) W) from by rw [← Hr.out];exact slices_Contains_strs _ (L.pl.take j) (strAt L.pl j) W ((Htk.out.mono (Nat.le_refl _) hx.size).up hX))
   go_wp2_with fail
   refine Calls.mono (impl_isSmall_b Hq1.out _ (by decide)) ?_
   rintro e w1 ⟨rfl,hx1⟩
   have hxr:Ext wr w1:=exts
   clear bx0 bx1 bxg
   have bx:=Hbx.out.ext hxr
   have bx0:=bx.at0
   have bx1:=bx.at1
   have bxg:=bx.1
   clear bx
   cases q1 with
   | false =>
    go_wp2_with fail
    go_ret
    exact ⟨ret_bool (B_false (fun h=>B_not.1 Hq1.out (h.2.2.1 j hlt).1)).symm,exts⟩
   | true =>
    go_wp2_with fail
    refine Calls.mono (Hct.out _ exts) ?_
    rintro e w2 ⟨rfl,hx2⟩
    by_cases hr:0 ≤ r
    case pos =>
     rw [B_true hr]
     go_wp2_with fail
     go_ret
     exact ⟨ret_bool (B_false (fun h=>(Hdup.out.1 hr) (h.2.2.1 j hlt).2)).symm,exts⟩
    rw [B_false hr]
    go_wp2_with fail
    go_roundg (L.pl.length - (j+1))
    case measure=>omega
    case rel=>exact ⟨j+1,by omega,by go_num,exts,pl_step Hok.out ⟨B_iff.1 Hq1.out,Classical.byContradiction fun hn=>by have:=Hdup.out.2 hn;omega⟩⟩
  ·obtain rfl:j=L.pl.length:=by omega
   have hji:¬ (L.pl.length:Int) < (L.pl.length:Int):=by omega
   have Hpl:=qh (show ∀ i,i < L.pl.length → PlStep L.pl i from Hok.out)
   clear hlt
   go_wp2_with fail
   refine Calls.mono (containsFunc_ways _ L.wy 271 #[.pointer (some ⟨w.heap.size,0,none⟩)] (fun i=>¬ WyOk L.pl.length (wyAt L.wy i)) wr (Ht.out.up hx) Tryz.call271 (fun i w' _ hxx=>impl_IsLand_1 (wyAt L.wy i) _ _ _ _ _ w' hnp (Hbx.out.ext hxx).1 (Hbx.out.ext hxx).at0 (Hbx.out.ext hxx).at1)) ?_
   rintro e w2 ⟨rfl,hx2⟩
   go_wp2_with fail
   go_ret
   refine ⟨ret_bool (B_eq ?_),exts⟩
   rw [Bool.not_eq_true', B_not]
   exact ⟨fun h=>⟨⟨hl1,hl2⟩,hl3,Hpl.out,fun i hi=>Classical.byContradiction fun hn=>h ⟨i,hi,hn⟩⟩,fun h ⟨i,hi,hn⟩=>hn (h.2.2.2 i hi)⟩
set_option maxHeartbeats 1000000 in
theorem spec_l14Place (A:Option Addr) (n c:Nat) (u:Value) (x:Int) (w:World) (hn:n ≤ 9223372036854775807):Calls Tryz.prog 262 #[.agg #[.slice A n c,u],.int .i64 x] w (RetX (.bool (B (0 ≤ x∧x ≤ (n:Int) - 1))) w):=by
 have W1:IntKind.i64.wrap ((n:Int) - 1)=(n:Int) - 1:=IntWalk.i64_in _ (by omega)
 go_enter Tryz.func262,Tryz.ntmps262
 go_wp2_with fail
 refine Calls.mono (spec_l01In x 0 ((n:Int) - 1) _) ?_
 rintro e w1 ⟨rfl,rfl⟩
 go_wp2_with fail
 go_ret
 exact ⟨rfl,exts⟩
theorem spec_l14Place_b {x:Int} {n:Nat} {b:Bool} (hb:B (0 ≤ x∧x ≤ (n:Int) - 1)=b) (A:Option Addr) (c:Nat) (u:Value) (w:World) (hn:n ≤ 9223372036854775807):Calls Tryz.prog 262 #[.agg #[.slice A n c,u],.int .i64 x] w (RetX (.bool b) w):=by
 subst hb;exact spec_l14Place A n c u x w hn
set_option maxRecDepth 100000 in
set_option maxHeartbeats 16000000 in
theorem spec_IsLand (v u:Value) (L:Lnd) (w:World) (hp:Strs w 0 w.heap.size v L.pl) (ht:Wys w 0 w.heap.size u L.wy) (hsm:∀ i,i < L.pl.length → (strAt L.pl i).size ≤ 1048576):Calls Tryz.prog 227 #[.agg #[v,u]] w (RetX (.bool (B (LndOk L))) w):=by
 obtain ⟨Ap,cp,rfl,hnp,hcp⟩:=hp.len
 obtain ⟨At,ct,rfl,hnt,hct⟩:=ht.len
 have Hp:=qh hp
 have Ht:=qh ht
 clear hp ht
 have Hsm:=qh hsm
 clear hsm
 have Hb:=qh (Boxed.new w [.slice Ap L.pl.length cp,.slice At L.wy.length ct] 52)
 go_enter Tryz.func227,Tryz.ntmps227
 go_wp2_with fail
 go_loopg [3] L.pl.length (fun q i wr=>∃ j:Nat,j+q=L.pl.length∧i=.int .i64 j∧Ext (w.alloc (.cells #[.slice Ap L.pl.length cp,.slice At L.wy.length ct] 52)) wr∧∀ i,i < j → PlStep L.pl i)
 case atStart=>exact ⟨0,by omega,rfl,exts,fun i hi=>absurd hi (by omega)⟩
 case round =>
  obtain ⟨j,hj,rfl,hx0,hok⟩:=hrel
  have Hok:=qh hok
  clear hok
  have hx:Ext w wr:=exts
  have bx:=Hb.out.ext hx0;have bx0:=bx.at0;have bx1:=bx.at1;have bxg:=bx.1;have Hbx:=qh bx;clear bx
  have hj0:(0:Int) ≤ (j:Int):=by omega
  by_cases hlt:j < L.pl.length
  ·obtain ⟨b,off,eA,_,hb,h1⟩:=(Hp.out.ext hx (Nat.le_refl _)).at_ hlt
   have Hrow:=qh (Hp.out.ext hx (Nat.le_refl _))
   subst eA
   have Htk:=qh (Strs.take Hrow.out (Nat.le_of_lt hlt))
   clear Hrow
   have hbr:b < wr.heap.size:=Nat.lt_of_lt_of_le hb hx.size
   have hji:(j:Int) < (L.pl.length:Int):=by omega
   have hjl:(j:Int) ≤ (L.pl.length:Int):=by omega
   have hjc:(j:Int) ≤ (cp:Int):=by omega
   have hjc2:j ≤ cp:=by omega
   have hsz:=Hsm.out j hlt
   obtain ⟨q1,eq1⟩:∃ b,B (NameOk (strAt L.pl j) 12)=b:=⟨_,rfl⟩
   have Hq1:=qh eq1
   clear eq1
   obtain ⟨r,er⟩:∃ r,fstIx (fun i=>strAt (L.pl.take j) i=strAt L.pl j) (L.pl.take j).length=r:=⟨_,rfl⟩
   have Hdup:=qh (dup_iff (l:=L.pl) (j:=j) (Nat.le_of_lt hlt))
   rw [er] at Hdup
   have Hr:=qh er
   clear er
   have Hct:=qh (fun W (hX:Ext wr W)=>show Calls Tryz.prog 103 #[.slice (some ⟨b,off,none⟩) j cp,.string (strAt L.pl j)] W (RetX (.int .i64 r) W) from by rw [← Hr.out];exact spec_l01Text _ (L.pl.take j) (strAt L.pl j) W ((Htk.out.mono (Nat.le_refl _) hx.size).up hX))
   cases q1 with
   | false =>
    go_wp2_with fail
    (refine wp_region_onto prog_mixed (by kernel_rfl) ?_;(repeat (go_big_quiet_step ((first | (go_at_call 187;exact onto_callS (spec_l01Name_b Hq1.out _ (by omega))) | (go_at_call 103;exact onto_callX (Hct.out _ (onto_ext _ _)))))));refine onto_end ?_;intro w1 hx1)
    go_wp2_with fail
    go_ret
    exact ⟨ret_bool (B_false (fun h=>B_not.1 Hq1.out (h.2.2.1 j hlt).1)).symm,exts⟩
   | true =>
    by_cases hr:0 ≤ r
    case pos =>
     have dr:decide (0 ≤ r)=true:=decide_eq_true hr
     go_wp2_with fail
     (refine wp_region_onto prog_mixed (by kernel_rfl) ?_;(repeat (go_big_quiet_step ((first | (go_at_call 187;exact onto_callS (spec_l01Name_b Hq1.out _ (by omega))) | (go_at_call 103;exact onto_callX (Hct.out _ (onto_ext _ _)))))));refine onto_end ?_;intro w1 hx1)
     go_wp2_with fail
     go_ret
     exact ⟨ret_bool (B_false (fun h=>(Hdup.out.1 hr) (h.2.2.1 j hlt).2)).symm,exts⟩
    have dr:decide (0 ≤ r)=false:=decide_eq_false hr
    go_wp2_with fail
    (refine wp_region_onto prog_mixed (by kernel_rfl) ?_;(repeat (go_big_quiet_step ((first | (go_at_call 187;exact onto_callS (spec_l01Name_b Hq1.out _ (by omega))) | (go_at_call 103;exact onto_callX (Hct.out _ (onto_ext _ _)))))));refine onto_end ?_;intro w1 hx1)
    go_wp2_with fail
    go_roundg (L.pl.length - (j+1))
    case measure=>omega
    case rel=>exact ⟨j+1,by omega,by go_num,exts,pl_step Hok.out ⟨B_iff.1 Hq1.out,Classical.byContradiction fun hn=>by have:=Hdup.out.2 hn;omega⟩⟩
  ·obtain rfl:j=L.pl.length:=by omega
   have hji:¬ (L.pl.length:Int) < (L.pl.length:Int):=by omega
   have Hpl:=qh (show ∀ i,i < L.pl.length → PlStep L.pl i from Hok.out)
   clear hlt
   obtain ⟨wz,rfl⟩:∃ x:World,x=wr:=⟨_,rfl⟩
   go_wp2_with fail
   go_loopg [4,5] L.wy.length (fun q i u5 wr=>∃ j:Nat,j+q=L.wy.length∧i=.int .i64 j∧Ext wz wr∧∀ i,i < j → WyOk L.pl.length (wyAt L.wy i))
   case atStart=>exact ⟨0,by omega,rfl,exts,fun i hi=>absurd hi (by omega)⟩
   case round =>
    obtain ⟨j,hj,rfl,hxz,hok⟩:=hrel
    have Hwy:=qh hok
    clear hok bx0 bx1 bxg
    have hx2:Ext w wr:=hx.trans hxz
    have bx:=Hbx.out.ext hxz
    have bx0:=bx.at0
    have bx1:=bx.at1
    have bxg:=bx.1
    have Hby:=qh bx
    clear bx
    have bxg1:w.heap.size < wr.heap.size+1:=by omega
    have hj0:(0:Int) ≤ (j:Int):=by omega
    by_cases hlt:j < L.wy.length
    ·obtain ⟨b,off,rfl,_,hb,h1,h2,h3⟩:=(Ht.out.ext hx2 (Nat.le_refl _)).at_ hlt
     have hbr:b < wr.heap.size:=Nat.lt_of_lt_of_le hb hx2.size
     have hbr1:b < wr.heap.size+1:=by omega
     have hji:(j:Int) < (L.wy.length:Int):=by omega
     obtain ⟨q1,eq1⟩:∃ b,B (0 ≤ (wyAt L.wy j).a∧(wyAt L.wy j).a ≤ (L.pl.length:Int) - 1)=b:=⟨_,rfl⟩
     have Hq1:=qh eq1
     clear eq1
     obtain ⟨q2,eq2⟩:∃ b,B (0 ≤ (wyAt L.wy j).b∧(wyAt L.wy j).b ≤ (L.pl.length:Int) - 1)=b:=⟨_,rfl⟩
     have Hq2:=qh eq2
     clear eq2
     obtain ⟨q3,eq3⟩:∃ b,B (1 ≤ (wyAt L.wy j).d∧(wyAt L.wy j).d ≤ 60)=b:=⟨_,rfl⟩
     have Hq3:=qh eq3
     clear eq3
     go_wp2_with fail
     refine Calls.mono (spec_l14Place_b Hq1.out _ _ _ _ hnp) ?_
     rintro e w3 ⟨rfl,hx3⟩
     have bt:=(Boxed.new wr [.int .i64 (wyAt L.wy j).a,.int .i64 (wyAt L.wy j).b,.int .i64 (wyAt L.wy j).d] 231).ext hx3;have bt0:=bt.at0;have bt1:=bt.at1;have bt2:=bt.at2;have btg:=bt.1;have Hbt:=qh bt;clear bt
     have hxr3:Ext wr w3:=exts
     clear bx0 bx1 bxg bxg1
     have bx:=Hby.out.ext hxr3
     have bx0:=bx.at0
     have bx1:=bx.at1
     have bxg:=bx.1
     clear bx h1 h2 h3
     cases q1 with
     | false =>
      go_wp2_with fail
      go_ret
      exact ⟨ret_bool (B_false (fun h=>B_not.1 Hq1.out (by have hh:=h.2.2.2 j hlt;exact hh.1))).symm,exts⟩
     | true =>
      go_wp2_with fail
      refine Calls.mono (spec_l14Place_b Hq2.out _ _ _ _ hnp) ?_
      rintro e w4 ⟨rfl,hx4⟩
      clear bt0 bt1 bt2 btg
      have bt:=Hbt.out.ext hx4
      have bt0:=bt.at0
      have bt1:=bt.at1
      have bt2:=bt.at2
      have btg:=bt.1
      clear bt
      cases q2 with
      | false =>
       go_wp2_with fail
       go_ret
       exact ⟨ret_bool (B_false (fun h=>B_not.1 Hq2.out (by have hh:=h.2.2.2 j hlt;exact hh.2.1))).symm,exts⟩
      | true =>
       by_cases h4:(wyAt L.wy j).a=(wyAt L.wy j).b
       case pos =>
        have d5:((wyAt L.wy j).a == (wyAt L.wy j).b)=true:=by simpa using h4
        have H4:=qh h4
        have d4:decide ((wyAt L.wy j).a=(wyAt L.wy j).b)=true:=decide_eq_true h4
        clear h4
        go_wp2_with fail
        go_ret
        exact ⟨ret_bool (B_false (fun h=>(h.2.2.2 j hlt).2.2.1 H4.out)).symm,exts⟩
       have d5:((wyAt L.wy j).a == (wyAt L.wy j).b)=false:=by simpa using h4
       have d4:decide ((wyAt L.wy j).a=(wyAt L.wy j).b)=false:=decide_eq_false h4
       have H4:=qh h4
       clear h4
       go_wp2_with fail
       refine Calls.mono (spec_l01In_k Hq3.out _) ?_
       rintro e w5 ⟨rfl,rfl⟩
       cases q3 with
       | false =>
        go_wp2_with fail
        go_ret
        exact ⟨ret_bool (B_false (fun h=>B_not.1 Hq3.out (by have hh:=h.2.2.2 j hlt;exact hh.2.2.2))).symm,exts⟩
       | true =>
        have Hn:=qh (show WyOk L.pl.length (wyAt L.wy j) from ⟨B_iff.1 Hq1.out,B_iff.1 Hq2.out,H4.out,B_iff.1 Hq3.out⟩)
        go_wp2_with fail
        go_roundg (L.wy.length - (j+1))
        case measure=>omega
        case rel=>exact ⟨j+1,by omega,by go_num,(hxz.trans hxr3).trans exts,fun i hi=>by
         by_cases e:i=j
         ·rw [e];exact Hn.out
         ·exact Hwy.out i (by omega)⟩
    ·obtain rfl:j=L.wy.length:=by omega
     have hji:¬ (L.wy.length:Int) < (L.wy.length:Int):=by omega
     clear hlt
     by_cases hl1:1 ≤ L.pl.length
     case neg =>
      have d1:decide ((1:Int) ≤ (L.pl.length:Int))=false:=decide_eq_false (by omega)
      go_wp2_with fail
      go_ret
      exact ⟨ret_bool (B_false (fun h=>by have:=h.1.1;omega)).symm,exts⟩
     have d1:decide ((1:Int) ≤ (L.pl.length:Int))=true:=decide_eq_true (by omega)
     by_cases hl2:L.pl.length ≤ 12
     case neg =>
      have d2:decide ((L.pl.length:Int) ≤ 12)=false:=decide_eq_false (by omega)
      go_wp2_with fail
      go_ret
      exact ⟨ret_bool (B_false (fun h=>by have:=h.1.2;omega)).symm,exts⟩
     have d2:decide ((L.pl.length:Int) ≤ 12)=true:=decide_eq_true (by omega)
     by_cases hl3:L.wy.length ≤ 40
     case neg =>
      have d3:decide ((L.wy.length:Int) ≤ 40)=false:=decide_eq_false (by omega)
      go_wp2_with fail
      go_ret
      exact ⟨ret_bool (B_false (fun h=>by have:=h.2.1;omega)).symm,exts⟩
     have d3:decide ((L.wy.length:Int) ≤ 40)=true:=decide_eq_true (by omega)
     go_wp2_with fail
     go_ret
     exact ⟨ret_bool (B_true ⟨⟨hl1,hl2⟩,hl3,Hpl.out,Hwy.out⟩).symm,exts⟩
end Go.Proofs.YtechbeegbhlppaaGreatDoor
