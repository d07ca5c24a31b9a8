/- Contracts: IsClause, the program's and the reference's. -/
import Derived.Test.YtechbeegbhlppaaGreatDoorS2Qd
namespace Go.Proofs.YtechbeegbhlppaaGreatDoor
set_option linter.unusedVariables false
set_option linter.unusedSimpArgs false
open Go.RowKit
attribute [local go_sem] cell_onto
theorem cls_0 (nu mo fe re wd st:Int) (kg:ByteArray):ClsOk ⟨0,nu,mo,fe,re,wd,st,kg⟩ ↔ MdOk mo nu∧fe=0∧re=0∧wd=0∧st=0∧kg=⟨#[]⟩:=by
 unfold ClsOk clsFine clsUsed
 simp
theorem cls_1 (nu mo fe re wd st:Int) (kg:ByteArray):ClsOk ⟨1,nu,mo,fe,re,wd,st,kg⟩ ↔ RelOk fe re wd∧nu=0∧mo=0∧st=0∧kg=⟨#[]⟩:=by
 unfold ClsOk clsFine clsUsed
 simp
theorem cls_2 (nu mo fe re wd st:Int) (kg:ByteArray):ClsOk ⟨2,nu,mo,fe,re,wd,st,kg⟩ ↔ ((1 ≤ nu∧nu ≤ 99)∧NameOk kg 12)∧mo=0∧fe=0∧re=0∧wd=0∧st=0:=by
 unfold ClsOk clsFine clsUsed
 simp
theorem cls_3 (nu mo fe re wd st:Int) (kg:ByteArray):ClsOk ⟨3,nu,mo,fe,re,wd,st,kg⟩ ↔ ((2 ≤ nu∧nu ≤ 1999)∧0 ≤ st∧st ≤ 6)∧mo=0∧fe=0∧re=0∧wd=0∧kg=⟨#[]⟩:=by
 unfold ClsOk clsFine clsUsed
 simp
theorem cls_4 (nu mo fe re wd st:Int) (kg:ByteArray):ClsOk ⟨4,nu,mo,fe,re,wd,st,kg⟩ ↔ ((1 ≤ nu∧nu ≤ 15)∧0 ≤ st∧st ≤ 2)∧mo=0∧fe=0∧re=0∧wd=0∧kg=⟨#[]⟩:=by
 unfold ClsOk clsFine clsUsed
 simp
theorem cls_5 (nu mo fe re wd st:Int) (kg:ByteArray):ClsOk ⟨5,nu,mo,fe,re,wd,st,kg⟩ ↔ (0 ≤ wd∧wd ≤ 6)∧nu=0∧mo=0∧fe=0∧re=0∧st=0∧kg=⟨#[]⟩:=by
 unfold ClsOk clsFine clsUsed
 simp
theorem cls_no {ki:Int} (nu mo fe re wd st:Int) (kg:ByteArray) (h:ki ≠ 0∧ki ≠ 1∧ki ≠ 2∧ki ≠ 3∧ki ≠ 4∧ki ≠ 5):¬ ClsOk ⟨ki,nu,mo,fe,re,wd,st,kg⟩:=by
 obtain ⟨h0,h1,h2,h3,h4,h5⟩:=h
 unfold ClsOk clsFine
 simp [h0,h1,h2,h3,h4,h5]
theorem Boxed.cl8 {w:World} {g:Nat} {cs:List Value} (h:Boxed w g cs) (i:Nat) {u:Value} (hu:cs[i]? = some u):w.cell? ⟨g,i,none⟩=some u:=(h.2 i u hu).1
theorem nil_iff (a:ByteArray):a.toList=[] ↔ a=⟨#[]⟩:=by
 have h:=str_eq a ⟨#[]⟩
 have e:(⟨#[]⟩:ByteArray).toList=[]:=by rw [toList_data]
 rw [e,Bool.eq_iff_iff,beq_iff_eq,decide_eq_true_eq] at h
 exact h
set_option maxRecDepth 100000 in
set_option maxHeartbeats 8000000 in
theorem impl_IsClause (x:Cls) (w:World):Calls Tryz.prog 237 #[.agg #[.int .i64 x.ki,.int .i64 x.nu,.int .i64 x.mo,.int .i64 x.fe,.int .i64 x.re,.int .i64 x.wd,.int .i64 x.st,.string x.kg]] w (RetX (.bool (B (ClsOk x))) w):=by
 obtain ⟨ki,nu,mo,fe,re,wd,st,kg⟩:=x
 dsimp only
 by_cases h0:ki=0
 case pos =>
  subst h0
  obtain ⟨q0,e0⟩:∃ b,B (MdOk mo nu)=b:=⟨_,rfl⟩
  have Hq0:=qh e0
  clear e0
  have HC0:=qh (Boxed.new w [.int .i64 0,.int .i64 nu,.int .i64 mo,.int .i64 fe,.int .i64 re,.int .i64 wd,.int .i64 st,.string kg] 191)
  have HU0:=qh (Boxed.new (w.alloc (.cells #[.int .i64 0,.int .i64 nu,.int .i64 mo,.int .i64 fe,.int .i64 re,.int .i64 wd,.int .i64 st,.string kg] 191)) [.int .i64 0,.int .i64 nu,.int .i64 mo,.int .i64 0,.int .i64 0,.int .i64 0,.int .i64 0,.string ⟨#[]⟩] 191)
  have Hk:=qh (cls_0 nu mo fe re wd st kg)
  go_enter Tryz.func237,Tryz.ntmps237
  go_wp2_with fail
  go_region
  go_wp2_with fail
  refine Calls.mono (impl_isMonthDay mo nu _) ?_
  rintro e w1 ⟨rfl,hE⟩
  rw [Hq0.out]
  have HC1:=qh (show Boxed w1 w.heap.size [.int .i64 0,.int .i64 nu,.int .i64 mo,.int .i64 fe,.int .i64 re,.int .i64 wd,.int .i64 st,.string kg] from HC0.out.ext exts)
  have HU1:=qh (show Boxed w1 (w.heap.size+1) [.int .i64 0,.int .i64 nu,.int .i64 mo,.int .i64 0,.int .i64 0,.int .i64 0,.int .i64 0,.string ⟨#[]⟩] from by have t:=HU0.out;rw [World.size_alloc] at t;exact t.ext exts)
  have hx1:Ext w w1:=exts
  clear hE
  have c0:=HC1.out.cl8 0 rfl
  have u0:=HU1.out.cl8 0 rfl
  have c1:=HC1.out.cl8 1 rfl
  have u1:=HU1.out.cl8 1 rfl
  have c2:=HC1.out.cl8 2 rfl
  have u2:=HU1.out.cl8 2 rfl
  have c3:=HC1.out.cl8 3 rfl
  have u3:=HU1.out.cl8 3 rfl
  have c4:=HC1.out.cl8 4 rfl
  have u4:=HU1.out.cl8 4 rfl
  have c5:=HC1.out.cl8 5 rfl
  have u5:=HU1.out.cl8 5 rfl
  have c6:=HC1.out.cl8 6 rfl
  have u6:=HU1.out.cl8 6 rfl
  have c7:=HC1.out.cl8 7 rfl
  have u7:=HU1.out.cl8 7 rfl
  have cg:=HC1.out.1
  have ug:=HU1.out.1
  cases q0
  case false =>
   go_wp2_with fail
   go_ret
   exact ⟨ret_bool (B_false (fun h=>B_not.1 Hq0.out (Hk.out.1 h).1)).symm,exts⟩
  go_wp2_with fail
  all_goals (go_ret;refine ⟨ret_bool (B_eq ?_),exts⟩;rw [Hk.out];simp_all [str_eq,nil_iff,B_iff.1 Hq0.out])
 by_cases h1:ki=1
 case pos =>
  subst h1
  obtain ⟨q0,e0⟩:∃ b,B (RelOk fe re wd)=b:=⟨_,rfl⟩
  have Hq0:=qh e0
  clear e0
  have HC0:=qh (Boxed.new w [.int .i64 1,.int .i64 nu,.int .i64 mo,.int .i64 fe,.int .i64 re,.int .i64 wd,.int .i64 st,.string kg] 191)
  have HU0:=qh (Boxed.new (w.alloc (.cells #[.int .i64 1,.int .i64 nu,.int .i64 mo,.int .i64 fe,.int .i64 re,.int .i64 wd,.int .i64 st,.string kg] 191)) [.int .i64 1,.int .i64 0,.int .i64 0,.int .i64 fe,.int .i64 re,.int .i64 wd,.int .i64 0,.string ⟨#[]⟩] 191)
  have Hk:=qh (cls_1 nu mo fe re wd st kg)
  go_enter Tryz.func237,Tryz.ntmps237
  go_wp2_with fail
  go_region
  go_wp2_with fail
  refine Calls.mono (impl_isRelation fe re wd _) ?_
  rintro e w1 ⟨rfl,hE⟩
  rw [Hq0.out]
  have HC1:=qh (show Boxed w1 w.heap.size [.int .i64 1,.int .i64 nu,.int .i64 mo,.int .i64 fe,.int .i64 re,.int .i64 wd,.int .i64 st,.string kg] from HC0.out.ext exts)
  have HU1:=qh (show Boxed w1 (w.heap.size+1) [.int .i64 1,.int .i64 0,.int .i64 0,.int .i64 fe,.int .i64 re,.int .i64 wd,.int .i64 0,.string ⟨#[]⟩] from by have t:=HU0.out;rw [World.size_alloc] at t;exact t.ext exts)
  have hx1:Ext w w1:=exts
  clear hE
  have c0:=HC1.out.cl8 0 rfl
  have u0:=HU1.out.cl8 0 rfl
  have c1:=HC1.out.cl8 1 rfl
  have u1:=HU1.out.cl8 1 rfl
  have c2:=HC1.out.cl8 2 rfl
  have u2:=HU1.out.cl8 2 rfl
  have c3:=HC1.out.cl8 3 rfl
  have u3:=HU1.out.cl8 3 rfl
  have c4:=HC1.out.cl8 4 rfl
  have u4:=HU1.out.cl8 4 rfl
  have c5:=HC1.out.cl8 5 rfl
  have u5:=HU1.out.cl8 5 rfl
  have c6:=HC1.out.cl8 6 rfl
  have u6:=HU1.out.cl8 6 rfl
  have c7:=HC1.out.cl8 7 rfl
  have u7:=HU1.out.cl8 7 rfl
  have cg:=HC1.out.1
  have ug:=HU1.out.1
  cases q0
  case false =>
   go_wp2_with fail
   go_ret
   exact ⟨ret_bool (B_false (fun h=>B_not.1 Hq0.out (Hk.out.1 h).1)).symm,exts⟩
  go_wp2_with fail
  all_goals (go_ret;refine ⟨ret_bool (B_eq ?_),exts⟩;rw [Hk.out];simp_all [str_eq,nil_iff,B_iff.1 Hq0.out])
 by_cases h2:ki=2
 case pos =>
  subst h2
  obtain ⟨q0,e0⟩:∃ b,B (1 ≤ nu∧nu ≤ 99)=b:=⟨_,rfl⟩
  have Hq0:=qh e0
  clear e0
  obtain ⟨q1,e1⟩:∃ b,B (NameOk kg 12)=b:=⟨_,rfl⟩
  have Hq1:=qh e1
  clear e1
  have HC0:=qh (Boxed.new w [.int .i64 2,.int .i64 nu,.int .i64 mo,.int .i64 fe,.int .i64 re,.int .i64 wd,.int .i64 st,.string kg] 191)
  have HU0:=qh (Boxed.new (w.alloc (.cells #[.int .i64 2,.int .i64 nu,.int .i64 mo,.int .i64 fe,.int .i64 re,.int .i64 wd,.int .i64 st,.string kg] 191)) [.int .i64 2,.int .i64 nu,.int .i64 0,.int .i64 0,.int .i64 0,.int .i64 0,.int .i64 0,.string kg] 191)
  have Hk:=qh (cls_2 nu mo fe re wd st kg)
  go_enter Tryz.func237,Tryz.ntmps237
  go_wp2_with fail
  go_region
  go_wp2_with fail
  refine Calls.mono (impl_within nu 1 99 _) ?_
  rintro e w1 ⟨rfl,hE⟩
  rw [Hq0.out]
  have HC1:=qh (show Boxed w1 w.heap.size [.int .i64 2,.int .i64 nu,.int .i64 mo,.int .i64 fe,.int .i64 re,.int .i64 wd,.int .i64 st,.string kg] from by rw [← hE];exact HC0.out.ext exts)
  have HU1:=qh (show Boxed w1 (w.heap.size+1) [.int .i64 2,.int .i64 nu,.int .i64 0,.int .i64 0,.int .i64 0,.int .i64 0,.int .i64 0,.string kg] from by have t:=HU0.out;rw [World.size_alloc] at t;rw [← hE];exact t.ext exts)
  have hx1:Ext w w1:=by rw [← hE];exact exts
  clear hE
  have c0:=HC1.out.cl8 0 rfl
  have u0:=HU1.out.cl8 0 rfl
  have c1:=HC1.out.cl8 1 rfl
  have u1:=HU1.out.cl8 1 rfl
  have c2:=HC1.out.cl8 2 rfl
  have u2:=HU1.out.cl8 2 rfl
  have c3:=HC1.out.cl8 3 rfl
  have u3:=HU1.out.cl8 3 rfl
  have c4:=HC1.out.cl8 4 rfl
  have u4:=HU1.out.cl8 4 rfl
  have c5:=HC1.out.cl8 5 rfl
  have u5:=HU1.out.cl8 5 rfl
  have c6:=HC1.out.cl8 6 rfl
  have u6:=HU1.out.cl8 6 rfl
  have c7:=HC1.out.cl8 7 rfl
  have u7:=HU1.out.cl8 7 rfl
  have cg:=HC1.out.1
  have ug:=HU1.out.1
  cases q0
  case false =>
   go_wp2_with fail
   go_ret
   exact ⟨ret_bool (B_false (fun h=>B_not.1 Hq0.out (Hk.out.1 h).1.1)).symm,exts⟩
  go_wp2_with fail
  refine Calls.mono (impl_isSmall kg 12 _ (by decide)) ?_
  rintro e w2 ⟨rfl,hE⟩
  rw [Hq1.out]
  have HC2:=qh (HC1.out.ext hE)
  have HU2:=qh (HU1.out.ext hE)
  have hx2:Ext w w2:=hx1.trans hE
  clear hE
  clear c0 u0 c1 u1 c2 u2 c3 u3 c4 u4 c5 u5 c6 u6 c7 u7 cg ug
  have c0:=HC2.out.cl8 0 rfl
  have u0:=HU2.out.cl8 0 rfl
  have c1:=HC2.out.cl8 1 rfl
  have u1:=HU2.out.cl8 1 rfl
  have c2:=HC2.out.cl8 2 rfl
  have u2:=HU2.out.cl8 2 rfl
  have c3:=HC2.out.cl8 3 rfl
  have u3:=HU2.out.cl8 3 rfl
  have c4:=HC2.out.cl8 4 rfl
  have u4:=HU2.out.cl8 4 rfl
  have c5:=HC2.out.cl8 5 rfl
  have u5:=HU2.out.cl8 5 rfl
  have c6:=HC2.out.cl8 6 rfl
  have u6:=HU2.out.cl8 6 rfl
  have c7:=HC2.out.cl8 7 rfl
  have u7:=HU2.out.cl8 7 rfl
  have cg:=HC2.out.1
  have ug:=HU2.out.1
  cases q1
  case false =>
   go_wp2_with fail
   go_ret
   exact ⟨ret_bool (B_false (fun h=>B_not.1 Hq1.out (Hk.out.1 h).1.2)).symm,exts⟩
  go_wp2_with fail
  all_goals (go_ret;refine ⟨ret_bool (B_eq ?_),exts⟩;rw [Hk.out];simp_all [str_eq,nil_iff,B_iff.1 Hq0.out,B_iff.1 Hq1.out])
 by_cases h3:ki=3
 case pos =>
  subst h3
  obtain ⟨q0,e0⟩:∃ b,B (2 ≤ nu∧nu ≤ 1999)=b:=⟨_,rfl⟩
  have Hq0:=qh e0
  clear e0
  obtain ⟨q1,e1⟩:∃ b,B (0 ≤ st∧st ≤ 6)=b:=⟨_,rfl⟩
  have Hq1:=qh e1
  clear e1
  have HC0:=qh (Boxed.new w [.int .i64 3,.int .i64 nu,.int .i64 mo,.int .i64 fe,.int .i64 re,.int .i64 wd,.int .i64 st,.string kg] 191)
  have HU0:=qh (Boxed.new (w.alloc (.cells #[.int .i64 3,.int .i64 nu,.int .i64 mo,.int .i64 fe,.int .i64 re,.int .i64 wd,.int .i64 st,.string kg] 191)) [.int .i64 3,.int .i64 nu,.int .i64 0,.int .i64 0,.int .i64 0,.int .i64 0,.int .i64 st,.string ⟨#[]⟩] 191)
  have Hk:=qh (cls_3 nu mo fe re wd st kg)
  go_enter Tryz.func237,Tryz.ntmps237
  go_wp2_with fail
  go_region
  go_wp2_with fail
  refine Calls.mono (impl_isStyleYear nu _) ?_
  rintro e w1 ⟨rfl,hE⟩
  rw [Hq0.out]
  have HC1:=qh (show Boxed w1 w.heap.size [.int .i64 3,.int .i64 nu,.int .i64 mo,.int .i64 fe,.int .i64 re,.int .i64 wd,.int .i64 st,.string kg] from by rw [← hE];exact HC0.out.ext exts)
  have HU1:=qh (show Boxed w1 (w.heap.size+1) [.int .i64 3,.int .i64 nu,.int .i64 0,.int .i64 0,.int .i64 0,.int .i64 0,.int .i64 st,.string ⟨#[]⟩] from by have t:=HU0.out;rw [World.size_alloc] at t;rw [← hE];exact t.ext exts)
  have hx1:Ext w w1:=by rw [← hE];exact exts
  clear hE
  have c0:=HC1.out.cl8 0 rfl
  have u0:=HU1.out.cl8 0 rfl
  have c1:=HC1.out.cl8 1 rfl
  have u1:=HU1.out.cl8 1 rfl
  have c2:=HC1.out.cl8 2 rfl
  have u2:=HU1.out.cl8 2 rfl
  have c3:=HC1.out.cl8 3 rfl
  have u3:=HU1.out.cl8 3 rfl
  have c4:=HC1.out.cl8 4 rfl
  have u4:=HU1.out.cl8 4 rfl
  have c5:=HC1.out.cl8 5 rfl
  have u5:=HU1.out.cl8 5 rfl
  have c6:=HC1.out.cl8 6 rfl
  have u6:=HU1.out.cl8 6 rfl
  have c7:=HC1.out.cl8 7 rfl
  have u7:=HU1.out.cl8 7 rfl
  have cg:=HC1.out.1
  have ug:=HU1.out.1
  cases q0
  case false =>
   go_wp2_with fail
   go_ret
   exact ⟨ret_bool (B_false (fun h=>B_not.1 Hq0.out (Hk.out.1 h).1.1)).symm,exts⟩
  go_wp2_with fail
  refine Calls.mono (impl_isStyle st _) ?_
  rintro e w2 ⟨rfl,hE⟩
  rw [Hq1.out]
  have HC2:=qh (show Boxed w2 w.heap.size [.int .i64 3,.int .i64 nu,.int .i64 mo,.int .i64 fe,.int .i64 re,.int .i64 wd,.int .i64 st,.string kg] from by rw [← hE];exact HC1.out)
  have HU2:=qh (show Boxed w2 (w.heap.size+1) [.int .i64 3,.int .i64 nu,.int .i64 0,.int .i64 0,.int .i64 0,.int .i64 0,.int .i64 st,.string ⟨#[]⟩] from by rw [← hE];exact HU1.out)
  have hx2:Ext w w2:=by rw [← hE];exact exts
  clear hE
  clear c0 u0 c1 u1 c2 u2 c3 u3 c4 u4 c5 u5 c6 u6 c7 u7 cg ug
  have c0:=HC2.out.cl8 0 rfl
  have u0:=HU2.out.cl8 0 rfl
  have c1:=HC2.out.cl8 1 rfl
  have u1:=HU2.out.cl8 1 rfl
  have c2:=HC2.out.cl8 2 rfl
  have u2:=HU2.out.cl8 2 rfl
  have c3:=HC2.out.cl8 3 rfl
  have u3:=HU2.out.cl8 3 rfl
  have c4:=HC2.out.cl8 4 rfl
  have u4:=HU2.out.cl8 4 rfl
  have c5:=HC2.out.cl8 5 rfl
  have u5:=HU2.out.cl8 5 rfl
  have c6:=HC2.out.cl8 6 rfl
  have u6:=HU2.out.cl8 6 rfl
  have c7:=HC2.out.cl8 7 rfl
  have u7:=HU2.out.cl8 7 rfl
  have cg:=HC2.out.1
  have ug:=HU2.out.1
  cases q1
  case false =>
   go_wp2_with fail
   go_ret
   exact ⟨ret_bool (B_false (fun h=>B_not.1 Hq1.out (Hk.out.1 h).1.2)).symm,exts⟩
  go_wp2_with fail
  all_goals (go_ret;refine ⟨ret_bool (B_eq ?_),exts⟩;rw [Hk.out];simp_all [str_eq,nil_iff,B_iff.1 Hq0.out,B_iff.1 Hq1.out])
 by_cases h4:ki=4
 case pos =>
  subst h4
  obtain ⟨q0,e0⟩:∃ b,B (1 ≤ nu∧nu ≤ 15)=b:=⟨_,rfl⟩
  have Hq0:=qh e0
  clear e0
  obtain ⟨q1,e1⟩:∃ b,B (0 ≤ st∧st ≤ 2)=b:=⟨_,rfl⟩
  have Hq1:=qh e1
  clear e1
  have HC0:=qh (Boxed.new w [.int .i64 4,.int .i64 nu,.int .i64 mo,.int .i64 fe,.int .i64 re,.int .i64 wd,.int .i64 st,.string kg] 191)
  have HU0:=qh (Boxed.new (w.alloc (.cells #[.int .i64 4,.int .i64 nu,.int .i64 mo,.int .i64 fe,.int .i64 re,.int .i64 wd,.int .i64 st,.string kg] 191)) [.int .i64 4,.int .i64 nu,.int .i64 0,.int .i64 0,.int .i64 0,.int .i64 0,.int .i64 st,.string ⟨#[]⟩] 191)
  have Hk:=qh (cls_4 nu mo fe re wd st kg)
  go_enter Tryz.func237,Tryz.ntmps237
  go_wp2_with fail
  go_region
  go_wp2_with fail
  refine Calls.mono (impl_within nu 1 15 _) ?_
  rintro e w1 ⟨rfl,hE⟩
  rw [Hq0.out]
  have HC1:=qh (show Boxed w1 w.heap.size [.int .i64 4,.int .i64 nu,.int .i64 mo,.int .i64 fe,.int .i64 re,.int .i64 wd,.int .i64 st,.string kg] from by rw [← hE];exact HC0.out.ext exts)
  have HU1:=qh (show Boxed w1 (w.heap.size+1) [.int .i64 4,.int .i64 nu,.int .i64 0,.int .i64 0,.int .i64 0,.int .i64 0,.int .i64 st,.string ⟨#[]⟩] from by have t:=HU0.out;rw [World.size_alloc] at t;rw [← hE];exact t.ext exts)
  have hx1:Ext w w1:=by rw [← hE];exact exts
  clear hE
  have c0:=HC1.out.cl8 0 rfl
  have u0:=HU1.out.cl8 0 rfl
  have c1:=HC1.out.cl8 1 rfl
  have u1:=HU1.out.cl8 1 rfl
  have c2:=HC1.out.cl8 2 rfl
  have u2:=HU1.out.cl8 2 rfl
  have c3:=HC1.out.cl8 3 rfl
  have u3:=HU1.out.cl8 3 rfl
  have c4:=HC1.out.cl8 4 rfl
  have u4:=HU1.out.cl8 4 rfl
  have c5:=HC1.out.cl8 5 rfl
  have u5:=HU1.out.cl8 5 rfl
  have c6:=HC1.out.cl8 6 rfl
  have u6:=HU1.out.cl8 6 rfl
  have c7:=HC1.out.cl8 7 rfl
  have u7:=HU1.out.cl8 7 rfl
  have cg:=HC1.out.1
  have ug:=HU1.out.1
  cases q0
  case false =>
   go_wp2_with fail
   go_ret
   exact ⟨ret_bool (B_false (fun h=>B_not.1 Hq0.out (Hk.out.1 h).1.1)).symm,exts⟩
  go_wp2_with fail
  refine Calls.mono (impl_isKind st _) ?_
  rintro e w2 ⟨rfl,hE⟩
  rw [Hq1.out]
  have HC2:=qh (show Boxed w2 w.heap.size [.int .i64 4,.int .i64 nu,.int .i64 mo,.int .i64 fe,.int .i64 re,.int .i64 wd,.int .i64 st,.string kg] from by rw [← hE];exact HC1.out)
  have HU2:=qh (show Boxed w2 (w.heap.size+1) [.int .i64 4,.int .i64 nu,.int .i64 0,.int .i64 0,.int .i64 0,.int .i64 0,.int .i64 st,.string ⟨#[]⟩] from by rw [← hE];exact HU1.out)
  have hx2:Ext w w2:=by rw [← hE];exact exts
  clear hE
  clear c0 u0 c1 u1 c2 u2 c3 u3 c4 u4 c5 u5 c6 u6 c7 u7 cg ug
  have c0:=HC2.out.cl8 0 rfl
  have u0:=HU2.out.cl8 0 rfl
  have c1:=HC2.out.cl8 1 rfl
  have u1:=HU2.out.cl8 1 rfl
  have c2:=HC2.out.cl8 2 rfl
  have u2:=HU2.out.cl8 2 rfl
  have c3:=HC2.out.cl8 3 rfl
  have u3:=HU2.out.cl8 3 rfl
  have c4:=HC2.out.cl8 4 rfl
  have u4:=HU2.out.cl8 4 rfl
  have c5:=HC2.out.cl8 5 rfl
  have u5:=HU2.out.cl8 5 rfl
  have c6:=HC2.out.cl8 6 rfl
  have u6:=HU2.out.cl8 6 rfl
  have c7:=HC2.out.cl8 7 rfl
  have u7:=HU2.out.cl8 7 rfl
  have cg:=HC2.out.1
  have ug:=HU2.out.1
  cases q1
  case false =>
   go_wp2_with fail
   go_ret
   exact ⟨ret_bool (B_false (fun h=>B_not.1 Hq1.out (Hk.out.1 h).1.2)).symm,exts⟩
  go_wp2_with fail
  all_goals (go_ret;refine ⟨ret_bool (B_eq ?_),exts⟩;rw [Hk.out];simp_all [str_eq,nil_iff,B_iff.1 Hq0.out,B_iff.1 Hq1.out])
 by_cases h5:ki=5
 case pos =>
  subst h5
  obtain ⟨q0,e0⟩:∃ b,B (0 ≤ wd∧wd ≤ 6)=b:=⟨_,rfl⟩
  have Hq0:=qh e0
  clear e0
  have HC0:=qh (Boxed.new w [.int .i64 5,.int .i64 nu,.int .i64 mo,.int .i64 fe,.int .i64 re,.int .i64 wd,.int .i64 st,.string kg] 191)
  have HU0:=qh (Boxed.new (w.alloc (.cells #[.int .i64 5,.int .i64 nu,.int .i64 mo,.int .i64 fe,.int .i64 re,.int .i64 wd,.int .i64 st,.string kg] 191)) [.int .i64 5,.int .i64 0,.int .i64 0,.int .i64 0,.int .i64 0,.int .i64 wd,.int .i64 0,.string ⟨#[]⟩] 191)
  have Hk:=qh (cls_5 nu mo fe re wd st kg)
  go_enter Tryz.func237,Tryz.ntmps237
  go_wp2_with fail
  refine Calls.mono (impl_within wd 0 6 _) ?_
  rintro e w1 ⟨rfl,hE⟩
  rw [Hq0.out]
  have HC1:=qh (show Boxed w1 w.heap.size [.int .i64 5,.int .i64 nu,.int .i64 mo,.int .i64 fe,.int .i64 re,.int .i64 wd,.int .i64 st,.string kg] from by rw [← hE];exact HC0.out.ext exts)
  have HU1:=qh (show Boxed w1 (w.heap.size+1) [.int .i64 5,.int .i64 0,.int .i64 0,.int .i64 0,.int .i64 0,.int .i64 wd,.int .i64 0,.string ⟨#[]⟩] from by have t:=HU0.out;rw [World.size_alloc] at t;rw [← hE];exact t.ext exts)
  have hx1:Ext w w1:=by rw [← hE];exact exts
  clear hE
  have c0:=HC1.out.cl8 0 rfl
  have u0:=HU1.out.cl8 0 rfl
  have c1:=HC1.out.cl8 1 rfl
  have u1:=HU1.out.cl8 1 rfl
  have c2:=HC1.out.cl8 2 rfl
  have u2:=HU1.out.cl8 2 rfl
  have c3:=HC1.out.cl8 3 rfl
  have u3:=HU1.out.cl8 3 rfl
  have c4:=HC1.out.cl8 4 rfl
  have u4:=HU1.out.cl8 4 rfl
  have c5:=HC1.out.cl8 5 rfl
  have u5:=HU1.out.cl8 5 rfl
  have c6:=HC1.out.cl8 6 rfl
  have u6:=HU1.out.cl8 6 rfl
  have c7:=HC1.out.cl8 7 rfl
  have u7:=HU1.out.cl8 7 rfl
  have cg:=HC1.out.1
  have ug:=HU1.out.1
  cases q0
  case false =>
   go_wp2_with fail
   go_ret
   exact ⟨ret_bool (B_false (fun h=>B_not.1 Hq0.out (Hk.out.1 h).1)).symm,exts⟩
  go_wp2_with fail
  all_goals (go_ret;refine ⟨ret_bool (B_eq ?_),exts⟩;rw [Hk.out];simp_all [str_eq,nil_iff,B_iff.1 Hq0.out])
 have b0:(ki == 0)=false:=by simpa using h0
 have d0:decide (ki=0)=false:=decide_eq_false h0
 have b1:(ki == 1)=false:=by simpa using h1
 have d1:decide (ki=1)=false:=decide_eq_false h1
 have b2:(ki == 2)=false:=by simpa using h2
 have d2:decide (ki=2)=false:=decide_eq_false h2
 have b3:(ki == 3)=false:=by simpa using h3
 have d3:decide (ki=3)=false:=decide_eq_false h3
 have b4:(ki == 4)=false:=by simpa using h4
 have d4:decide (ki=4)=false:=decide_eq_false h4
 have b5:(ki == 5)=false:=by simpa using h5
 have d5:decide (ki=5)=false:=decide_eq_false h5
 have Hn:=qh (cls_no nu mo fe re wd st kg ⟨h0,h1,h2,h3,h4,h5⟩)
 clear h0 h1 h2 h3 h4 h5
 go_enter Tryz.func237,Tryz.ntmps237
 go_wp2_with fail
 go_ret
 exact ⟨ret_bool (B_false Hn.out).symm,exts⟩
set_option maxRecDepth 100000 in
set_option maxHeartbeats 8000000 in
theorem spec_IsClause (x:Cls) (w:World) (hs:x.kg.size ≤ 9223372036854775807):Calls Tryz.prog 229 #[.agg #[.int .i64 x.ki,.int .i64 x.nu,.int .i64 x.mo,.int .i64 x.fe,.int .i64 x.re,.int .i64 x.wd,.int .i64 x.st,.string x.kg]] w (RetX (.bool (B (ClsOk x))) w):=by
 obtain ⟨ki,nu,mo,fe,re,wd,st,kg⟩:=x
 dsimp only at *
 by_cases h0:ki=0
 case pos =>
  subst h0
  obtain ⟨q0,e0⟩:∃ b,B (OldOk 4 mo nu)=b:=⟨_,rfl⟩
  have Hq0:=qh e0
  clear e0
  have Hk:=qh (cls_0 nu mo fe re wd st kg)
  by_cases hz:fe=0∧re=0∧wd=0∧st=0∧kg=⟨#[]⟩
  case neg =>
   have Hz:=qh hz
   clear hz
   go_enter Tryz.func229,Tryz.ntmps229
   go_wp2_with fail
   all_goals (first | (go_ret;exact ⟨ret_bool (B_false (fun h=>Hz.out (Hk.out.1 h).2)).symm,exts⟩) | (exfalso;apply Hz.out;simp_all [nil_iff]))
  obtain ⟨rfl,rfl,rfl,rfl,rfl⟩:=hz
  have HC0:=qh (Boxed.new w [.int .i64 0,.int .i64 nu,.int .i64 mo,.int .i64 0,.int .i64 0,.int .i64 0,.int .i64 0,.string ⟨#[]⟩] 191)
  have HU0:=qh (Boxed.new (w.alloc (.cells #[.int .i64 0,.int .i64 nu,.int .i64 mo,.int .i64 0,.int .i64 0,.int .i64 0,.int .i64 0,.string ⟨#[]⟩] 191)) [.int .i64 0,.int .i64 nu,.int .i64 mo,.int .i64 0,.int .i64 0,.int .i64 0,.int .i64 0,.string ⟨#[]⟩] 191)
  go_enter Tryz.func229,Tryz.ntmps229
  go_wp2_with fail
  refine Calls.mono (spec_IsOldDate 4 mo nu _) ?_
  rintro e w1 ⟨rfl,hE⟩
  rw [Hq0.out]
  have HC1:=qh (show Boxed w1 w.heap.size [.int .i64 0,.int .i64 nu,.int .i64 mo,.int .i64 0,.int .i64 0,.int .i64 0,.int .i64 0,.string ⟨#[]⟩] from HC0.out.ext exts)
  have HU1:=qh (show Boxed w1 (w.heap.size+1) [.int .i64 0,.int .i64 nu,.int .i64 mo,.int .i64 0,.int .i64 0,.int .i64 0,.int .i64 0,.string ⟨#[]⟩] from by have t:=HU0.out;rw [World.size_alloc] at t;exact t.ext exts)
  have hx1:Ext w w1:=exts
  clear hE
  have c0:=HC1.out.cl8 0 rfl
  have u0:=HU1.out.cl8 0 rfl
  have c1:=HC1.out.cl8 1 rfl
  have u1:=HU1.out.cl8 1 rfl
  have c2:=HC1.out.cl8 2 rfl
  have u2:=HU1.out.cl8 2 rfl
  have c3:=HC1.out.cl8 3 rfl
  have u3:=HU1.out.cl8 3 rfl
  have c4:=HC1.out.cl8 4 rfl
  have u4:=HU1.out.cl8 4 rfl
  have c5:=HC1.out.cl8 5 rfl
  have u5:=HU1.out.cl8 5 rfl
  have c6:=HC1.out.cl8 6 rfl
  have u6:=HU1.out.cl8 6 rfl
  have c7:=HC1.out.cl8 7 rfl
  have u7:=HU1.out.cl8 7 rfl
  have cg:=HC1.out.1
  have ug:=HU1.out.1
  cases q0
  case false =>
   go_wp2_with fail
   go_ret
   exact ⟨ret_bool (B_false (fun h=>B_not.1 Hq0.out ((old4 mo nu).2 ((Hk.out.1 h).1)))).symm,exts⟩
  go_wp2_with fail
  have hy:=show MdOk mo nu from (old4 mo nu).1 (B_iff.1 Hq0.out)
  go_ret
  exact ⟨ret_bool (B_true (Hk.out.2 (by simp_all [nil_iff]))).symm,exts⟩
 by_cases h1:ki=1
 case pos =>
  subst h1
  obtain ⟨q0,e0⟩:∃ b,B (0 ≤ fe∧fe ≤ 19)=b:=⟨_,rfl⟩
  have Hq0:=qh e0
  clear e0
  obtain ⟨q1,e1⟩:∃ b,B (RelS re wd)=b:=⟨_,rfl⟩
  have Hq1:=qh e1
  clear e1
  have Hk:=qh (cls_1 nu mo fe re wd st kg)
  by_cases hz:nu=0∧mo=0∧st=0∧kg=⟨#[]⟩
  case neg =>
   have Hz:=qh hz
   clear hz
   go_enter Tryz.func229,Tryz.ntmps229
   go_wp2_with fail
   all_goals (first | (go_ret;exact ⟨ret_bool (B_false (fun h=>Hz.out (Hk.out.1 h).2)).symm,exts⟩) | (exfalso;apply Hz.out;simp_all [nil_iff]))
  obtain ⟨rfl,rfl,rfl,rfl⟩:=hz
  have HC0:=qh (Boxed.new w [.int .i64 1,.int .i64 0,.int .i64 0,.int .i64 fe,.int .i64 re,.int .i64 wd,.int .i64 0,.string ⟨#[]⟩] 191)
  have HU0:=qh (Boxed.new (w.alloc (.cells #[.int .i64 1,.int .i64 0,.int .i64 0,.int .i64 fe,.int .i64 re,.int .i64 wd,.int .i64 0,.string ⟨#[]⟩] 191)) [.int .i64 1,.int .i64 0,.int .i64 0,.int .i64 fe,.int .i64 re,.int .i64 wd,.int .i64 0,.string ⟨#[]⟩] 191)
  go_enter Tryz.func229,Tryz.ntmps229
  go_wp2_with fail
  refine Calls.mono (spec_l05Feast fe _) ?_
  rintro e w1 ⟨rfl,hE⟩
  rw [Hq0.out]
  have HC1:=qh (show Boxed w1 w.heap.size [.int .i64 1,.int .i64 0,.int .i64 0,.int .i64 fe,.int .i64 re,.int .i64 wd,.int .i64 0,.string ⟨#[]⟩] from by rw [← hE];exact HC0.out.ext exts)
  have HU1:=qh (show Boxed w1 (w.heap.size+1) [.int .i64 1,.int .i64 0,.int .i64 0,.int .i64 fe,.int .i64 re,.int .i64 wd,.int .i64 0,.string ⟨#[]⟩] from by have t:=HU0.out;rw [World.size_alloc] at t;rw [← hE];exact t.ext exts)
  have hx1:Ext w w1:=by rw [← hE];exact exts
  clear hE
  have c0:=HC1.out.cl8 0 rfl
  have u0:=HU1.out.cl8 0 rfl
  have c1:=HC1.out.cl8 1 rfl
  have u1:=HU1.out.cl8 1 rfl
  have c2:=HC1.out.cl8 2 rfl
  have u2:=HU1.out.cl8 2 rfl
  have c3:=HC1.out.cl8 3 rfl
  have u3:=HU1.out.cl8 3 rfl
  have c4:=HC1.out.cl8 4 rfl
  have u4:=HU1.out.cl8 4 rfl
  have c5:=HC1.out.cl8 5 rfl
  have u5:=HU1.out.cl8 5 rfl
  have c6:=HC1.out.cl8 6 rfl
  have u6:=HU1.out.cl8 6 rfl
  have c7:=HC1.out.cl8 7 rfl
  have u7:=HU1.out.cl8 7 rfl
  have cg:=HC1.out.1
  have ug:=HU1.out.1
  cases q0
  case false =>
   go_wp2_with fail
   go_ret
   exact ⟨ret_bool (B_false (fun h=>B_not.1 Hq0.out ((Hk.out.1 h).1.1))).symm,exts⟩
  go_wp2_with fail
  refine Calls.mono (spec_l05Relation re wd _) ?_
  rintro e w2 ⟨rfl,hE⟩
  rw [Hq1.out]
  have HC2:=qh (HC1.out.ext hE)
  have HU2:=qh (HU1.out.ext hE)
  have hx2:Ext w w2:=hx1.trans hE
  clear hE
  clear c0 u0 c1 u1 c2 u2 c3 u3 c4 u4 c5 u5 c6 u6 c7 u7 cg ug
  have c0:=HC2.out.cl8 0 rfl
  have u0:=HU2.out.cl8 0 rfl
  have c1:=HC2.out.cl8 1 rfl
  have u1:=HU2.out.cl8 1 rfl
  have c2:=HC2.out.cl8 2 rfl
  have u2:=HU2.out.cl8 2 rfl
  have c3:=HC2.out.cl8 3 rfl
  have u3:=HU2.out.cl8 3 rfl
  have c4:=HC2.out.cl8 4 rfl
  have u4:=HU2.out.cl8 4 rfl
  have c5:=HC2.out.cl8 5 rfl
  have u5:=HU2.out.cl8 5 rfl
  have c6:=HC2.out.cl8 6 rfl
  have u6:=HU2.out.cl8 6 rfl
  have c7:=HC2.out.cl8 7 rfl
  have u7:=HU2.out.cl8 7 rfl
  have cg:=HC2.out.1
  have ug:=HU2.out.1
  cases q1
  case false =>
   go_wp2_with fail
   go_ret
   exact ⟨ret_bool (B_false (fun h=>B_not.1 Hq1.out ((Hk.out.1 h).1.2))).symm,exts⟩
  go_wp2_with fail
  have hy:=show RelOk fe re wd from ⟨B_iff.1 Hq0.out,B_iff.1 Hq1.out⟩
  go_ret
  exact ⟨ret_bool (B_true (Hk.out.2 (by simp_all [nil_iff]))).symm,exts⟩
 by_cases h2:ki=2
 case pos =>
  subst h2
  obtain ⟨q0,e0⟩:∃ b,B (1 ≤ nu∧nu ≤ 99)=b:=⟨_,rfl⟩
  have Hq0:=qh e0
  clear e0
  obtain ⟨q1,e1⟩:∃ b,B (NameOk kg 12)=b:=⟨_,rfl⟩
  have Hq1:=qh e1
  clear e1
  have Hk:=qh (cls_2 nu mo fe re wd st kg)
  by_cases hz:mo=0∧fe=0∧re=0∧wd=0∧st=0
  case neg =>
   have Hz:=qh hz
   clear hz
   go_enter Tryz.func229,Tryz.ntmps229
   go_wp2_with fail
   all_goals (first | (go_ret;exact ⟨ret_bool (B_false (fun h=>Hz.out (Hk.out.1 h).2)).symm,exts⟩) | (exfalso;apply Hz.out;simp_all [nil_iff]))
  obtain ⟨rfl,rfl,rfl,rfl,rfl⟩:=hz
  have HC0:=qh (Boxed.new w [.int .i64 2,.int .i64 nu,.int .i64 0,.int .i64 0,.int .i64 0,.int .i64 0,.int .i64 0,.string kg] 191)
  have HU0:=qh (Boxed.new (w.alloc (.cells #[.int .i64 2,.int .i64 nu,.int .i64 0,.int .i64 0,.int .i64 0,.int .i64 0,.int .i64 0,.string kg] 191)) [.int .i64 2,.int .i64 nu,.int .i64 0,.int .i64 0,.int .i64 0,.int .i64 0,.int .i64 0,.string kg] 191)
  go_enter Tryz.func229,Tryz.ntmps229
  have sk:=str_same kg
  go_wp2_with fail
  refine Calls.mono (spec_l01In nu 1 99 _) ?_
  rintro e w1 ⟨rfl,hE⟩
  rw [Hq0.out]
  have HC1:=qh (show Boxed w1 w.heap.size [.int .i64 2,.int .i64 nu,.int .i64 0,.int .i64 0,.int .i64 0,.int .i64 0,.int .i64 0,.string kg] from by rw [← hE];exact HC0.out.ext exts)
  have HU1:=qh (show Boxed w1 (w.heap.size+1) [.int .i64 2,.int .i64 nu,.int .i64 0,.int .i64 0,.int .i64 0,.int .i64 0,.int .i64 0,.string kg] from by have t:=HU0.out;rw [World.size_alloc] at t;rw [← hE];exact t.ext exts)
  have hx1:Ext w w1:=by rw [← hE];exact exts
  clear hE
  have c0:=HC1.out.cl8 0 rfl
  have u0:=HU1.out.cl8 0 rfl
  have c1:=HC1.out.cl8 1 rfl
  have u1:=HU1.out.cl8 1 rfl
  have c2:=HC1.out.cl8 2 rfl
  have u2:=HU1.out.cl8 2 rfl
  have c3:=HC1.out.cl8 3 rfl
  have u3:=HU1.out.cl8 3 rfl
  have c4:=HC1.out.cl8 4 rfl
  have u4:=HU1.out.cl8 4 rfl
  have c5:=HC1.out.cl8 5 rfl
  have u5:=HU1.out.cl8 5 rfl
  have c6:=HC1.out.cl8 6 rfl
  have u6:=HU1.out.cl8 6 rfl
  have c7:=HC1.out.cl8 7 rfl
  have u7:=HU1.out.cl8 7 rfl
  have cg:=HC1.out.1
  have ug:=HU1.out.1
  cases q0
  case false =>
   go_wp2_with fail
   go_ret
   exact ⟨ret_bool (B_false (fun h=>B_not.1 Hq0.out ((Hk.out.1 h).1.1))).symm,exts⟩
  go_wp2_with fail
  refine Calls.mono (spec_l01Name kg 12 _ hs) ?_
  rintro e w2 ⟨rfl,hE⟩
  rw [Hq1.out]
  have HC2:=qh (show Boxed w2 w.heap.size [.int .i64 2,.int .i64 nu,.int .i64 0,.int .i64 0,.int .i64 0,.int .i64 0,.int .i64 0,.string kg] from by rw [← hE];exact HC1.out)
  have HU2:=qh (show Boxed w2 (w.heap.size+1) [.int .i64 2,.int .i64 nu,.int .i64 0,.int .i64 0,.int .i64 0,.int .i64 0,.int .i64 0,.string kg] from by rw [← hE];exact HU1.out)
  have hx2:Ext w w2:=by rw [← hE];exact exts
  clear hE
  clear c0 u0 c1 u1 c2 u2 c3 u3 c4 u4 c5 u5 c6 u6 c7 u7 cg ug
  have c0:=HC2.out.cl8 0 rfl
  have u0:=HU2.out.cl8 0 rfl
  have c1:=HC2.out.cl8 1 rfl
  have u1:=HU2.out.cl8 1 rfl
  have c2:=HC2.out.cl8 2 rfl
  have u2:=HU2.out.cl8 2 rfl
  have c3:=HC2.out.cl8 3 rfl
  have u3:=HU2.out.cl8 3 rfl
  have c4:=HC2.out.cl8 4 rfl
  have u4:=HU2.out.cl8 4 rfl
  have c5:=HC2.out.cl8 5 rfl
  have u5:=HU2.out.cl8 5 rfl
  have c6:=HC2.out.cl8 6 rfl
  have u6:=HU2.out.cl8 6 rfl
  have c7:=HC2.out.cl8 7 rfl
  have u7:=HU2.out.cl8 7 rfl
  have cg:=HC2.out.1
  have ug:=HU2.out.1
  cases q1
  case false =>
   go_wp2_with fail
   go_ret
   exact ⟨ret_bool (B_false (fun h=>B_not.1 Hq1.out ((Hk.out.1 h).1.2))).symm,exts⟩
  go_wp2_with fail
  have hy:=And.intro (B_iff.1 Hq0.out) (B_iff.1 Hq1.out)
  go_ret
  exact ⟨ret_bool (B_true (Hk.out.2 (by simp_all [nil_iff]))).symm,exts⟩
 by_cases h3:ki=3
 case pos =>
  subst h3
  obtain ⟨q0,e0⟩:∃ b,B (2 ≤ nu∧nu ≤ 1999)=b:=⟨_,rfl⟩
  have Hq0:=qh e0
  clear e0
  obtain ⟨q1,e1⟩:∃ b,B (0 ≤ st∧st ≤ 6)=b:=⟨_,rfl⟩
  have Hq1:=qh e1
  clear e1
  have Hk:=qh (cls_3 nu mo fe re wd st kg)
  by_cases hz:mo=0∧fe=0∧re=0∧wd=0∧kg=⟨#[]⟩
  case neg =>
   have Hz:=qh hz
   clear hz
   go_enter Tryz.func229,Tryz.ntmps229
   go_wp2_with fail
   all_goals (first | (go_ret;exact ⟨ret_bool (B_false (fun h=>Hz.out (Hk.out.1 h).2)).symm,exts⟩) | (exfalso;apply Hz.out;simp_all [nil_iff]))
  obtain ⟨rfl,rfl,rfl,rfl,rfl⟩:=hz
  have HC0:=qh (Boxed.new w [.int .i64 3,.int .i64 nu,.int .i64 0,.int .i64 0,.int .i64 0,.int .i64 0,.int .i64 st,.string ⟨#[]⟩] 191)
  have HU0:=qh (Boxed.new (w.alloc (.cells #[.int .i64 3,.int .i64 nu,.int .i64 0,.int .i64 0,.int .i64 0,.int .i64 0,.int .i64 st,.string ⟨#[]⟩] 191)) [.int .i64 3,.int .i64 nu,.int .i64 0,.int .i64 0,.int .i64 0,.int .i64 0,.int .i64 st,.string ⟨#[]⟩] 191)
  go_enter Tryz.func229,Tryz.ntmps229
  go_wp2_with fail
  refine Calls.mono (spec_l06Year nu _) ?_
  rintro e w1 ⟨rfl,hE⟩
  rw [Hq0.out]
  have HC1:=qh (show Boxed w1 w.heap.size [.int .i64 3,.int .i64 nu,.int .i64 0,.int .i64 0,.int .i64 0,.int .i64 0,.int .i64 st,.string ⟨#[]⟩] from by rw [← hE];exact HC0.out.ext exts)
  have HU1:=qh (show Boxed w1 (w.heap.size+1) [.int .i64 3,.int .i64 nu,.int .i64 0,.int .i64 0,.int .i64 0,.int .i64 0,.int .i64 st,.string ⟨#[]⟩] from by have t:=HU0.out;rw [World.size_alloc] at t;rw [← hE];exact t.ext exts)
  have hx1:Ext w w1:=by rw [← hE];exact exts
  clear hE
  have c0:=HC1.out.cl8 0 rfl
  have u0:=HU1.out.cl8 0 rfl
  have c1:=HC1.out.cl8 1 rfl
  have u1:=HU1.out.cl8 1 rfl
  have c2:=HC1.out.cl8 2 rfl
  have u2:=HU1.out.cl8 2 rfl
  have c3:=HC1.out.cl8 3 rfl
  have u3:=HU1.out.cl8 3 rfl
  have c4:=HC1.out.cl8 4 rfl
  have u4:=HU1.out.cl8 4 rfl
  have c5:=HC1.out.cl8 5 rfl
  have u5:=HU1.out.cl8 5 rfl
  have c6:=HC1.out.cl8 6 rfl
  have u6:=HU1.out.cl8 6 rfl
  have c7:=HC1.out.cl8 7 rfl
  have u7:=HU1.out.cl8 7 rfl
  have cg:=HC1.out.1
  have ug:=HU1.out.1
  cases q0
  case false =>
   go_wp2_with fail
   go_ret
   exact ⟨ret_bool (B_false (fun h=>B_not.1 Hq0.out ((Hk.out.1 h).1.1))).symm,exts⟩
  go_wp2_with fail
  refine Calls.mono (spec_l06Style st _) ?_
  rintro e w2 ⟨rfl,hE⟩
  rw [Hq1.out]
  have HC2:=qh (show Boxed w2 w.heap.size [.int .i64 3,.int .i64 nu,.int .i64 0,.int .i64 0,.int .i64 0,.int .i64 0,.int .i64 st,.string ⟨#[]⟩] from by rw [← hE];exact HC1.out)
  have HU2:=qh (show Boxed w2 (w.heap.size+1) [.int .i64 3,.int .i64 nu,.int .i64 0,.int .i64 0,.int .i64 0,.int .i64 0,.int .i64 st,.string ⟨#[]⟩] from by rw [← hE];exact HU1.out)
  have hx2:Ext w w2:=by rw [← hE];exact exts
  clear hE
  clear c0 u0 c1 u1 c2 u2 c3 u3 c4 u4 c5 u5 c6 u6 c7 u7 cg ug
  have c0:=HC2.out.cl8 0 rfl
  have u0:=HU2.out.cl8 0 rfl
  have c1:=HC2.out.cl8 1 rfl
  have u1:=HU2.out.cl8 1 rfl
  have c2:=HC2.out.cl8 2 rfl
  have u2:=HU2.out.cl8 2 rfl
  have c3:=HC2.out.cl8 3 rfl
  have u3:=HU2.out.cl8 3 rfl
  have c4:=HC2.out.cl8 4 rfl
  have u4:=HU2.out.cl8 4 rfl
  have c5:=HC2.out.cl8 5 rfl
  have u5:=HU2.out.cl8 5 rfl
  have c6:=HC2.out.cl8 6 rfl
  have u6:=HU2.out.cl8 6 rfl
  have c7:=HC2.out.cl8 7 rfl
  have u7:=HU2.out.cl8 7 rfl
  have cg:=HC2.out.1
  have ug:=HU2.out.1
  cases q1
  case false =>
   go_wp2_with fail
   go_ret
   exact ⟨ret_bool (B_false (fun h=>B_not.1 Hq1.out ((Hk.out.1 h).1.2))).symm,exts⟩
  go_wp2_with fail
  have hy:=And.intro (B_iff.1 Hq0.out) (B_iff.1 Hq1.out)
  go_ret
  exact ⟨ret_bool (B_true (Hk.out.2 (by simp_all [nil_iff]))).symm,exts⟩
 by_cases h4:ki=4
 case pos =>
  subst h4
  obtain ⟨q0,e0⟩:∃ b,B (1 ≤ nu∧nu ≤ 15)=b:=⟨_,rfl⟩
  have Hq0:=qh e0
  clear e0
  obtain ⟨q1,e1⟩:∃ b,B (0 ≤ st∧st ≤ 2)=b:=⟨_,rfl⟩
  have Hq1:=qh e1
  clear e1
  have Hk:=qh (cls_4 nu mo fe re wd st kg)
  by_cases hz:mo=0∧fe=0∧re=0∧wd=0∧kg=⟨#[]⟩
  case neg =>
   have Hz:=qh hz
   clear hz
   go_enter Tryz.func229,Tryz.ntmps229
   go_wp2_with fail
   all_goals (first | (go_ret;exact ⟨ret_bool (B_false (fun h=>Hz.out (Hk.out.1 h).2)).symm,exts⟩) | (exfalso;apply Hz.out;simp_all [nil_iff]))
  obtain ⟨rfl,rfl,rfl,rfl,rfl⟩:=hz
  have HC0:=qh (Boxed.new w [.int .i64 4,.int .i64 nu,.int .i64 0,.int .i64 0,.int .i64 0,.int .i64 0,.int .i64 st,.string ⟨#[]⟩] 191)
  have HU0:=qh (Boxed.new (w.alloc (.cells #[.int .i64 4,.int .i64 nu,.int .i64 0,.int .i64 0,.int .i64 0,.int .i64 0,.int .i64 st,.string ⟨#[]⟩] 191)) [.int .i64 4,.int .i64 nu,.int .i64 0,.int .i64 0,.int .i64 0,.int .i64 0,.int .i64 st,.string ⟨#[]⟩] 191)
  go_enter Tryz.func229,Tryz.ntmps229
  go_wp2_with fail
  refine Calls.mono (spec_l01In nu 1 15 _) ?_
  rintro e w1 ⟨rfl,hE⟩
  rw [Hq0.out]
  have HC1:=qh (show Boxed w1 w.heap.size [.int .i64 4,.int .i64 nu,.int .i64 0,.int .i64 0,.int .i64 0,.int .i64 0,.int .i64 st,.string ⟨#[]⟩] from by rw [← hE];exact HC0.out.ext exts)
  have HU1:=qh (show Boxed w1 (w.heap.size+1) [.int .i64 4,.int .i64 nu,.int .i64 0,.int .i64 0,.int .i64 0,.int .i64 0,.int .i64 st,.string ⟨#[]⟩] from by have t:=HU0.out;rw [World.size_alloc] at t;rw [← hE];exact t.ext exts)
  have hx1:Ext w w1:=by rw [← hE];exact exts
  clear hE
  have c0:=HC1.out.cl8 0 rfl
  have u0:=HU1.out.cl8 0 rfl
  have c1:=HC1.out.cl8 1 rfl
  have u1:=HU1.out.cl8 1 rfl
  have c2:=HC1.out.cl8 2 rfl
  have u2:=HU1.out.cl8 2 rfl
  have c3:=HC1.out.cl8 3 rfl
  have u3:=HU1.out.cl8 3 rfl
  have c4:=HC1.out.cl8 4 rfl
  have u4:=HU1.out.cl8 4 rfl
  have c5:=HC1.out.cl8 5 rfl
  have u5:=HU1.out.cl8 5 rfl
  have c6:=HC1.out.cl8 6 rfl
  have u6:=HU1.out.cl8 6 rfl
  have c7:=HC1.out.cl8 7 rfl
  have u7:=HU1.out.cl8 7 rfl
  have cg:=HC1.out.1
  have ug:=HU1.out.1
  cases q0
  case false =>
   go_wp2_with fail
   go_ret
   exact ⟨ret_bool (B_false (fun h=>B_not.1 Hq0.out ((Hk.out.1 h).1.1))).symm,exts⟩
  go_wp2_with fail
  refine Calls.mono (spec_l08Kind st _) ?_
  rintro e w2 ⟨rfl,hE⟩
  rw [Hq1.out]
  have HC2:=qh (show Boxed w2 w.heap.size [.int .i64 4,.int .i64 nu,.int .i64 0,.int .i64 0,.int .i64 0,.int .i64 0,.int .i64 st,.string ⟨#[]⟩] from by rw [← hE];exact HC1.out)
  have HU2:=qh (show Boxed w2 (w.heap.size+1) [.int .i64 4,.int .i64 nu,.int .i64 0,.int .i64 0,.int .i64 0,.int .i64 0,.int .i64 st,.string ⟨#[]⟩] from by rw [← hE];exact HU1.out)
  have hx2:Ext w w2:=by rw [← hE];exact exts
  clear hE
  clear c0 u0 c1 u1 c2 u2 c3 u3 c4 u4 c5 u5 c6 u6 c7 u7 cg ug
  have c0:=HC2.out.cl8 0 rfl
  have u0:=HU2.out.cl8 0 rfl
  have c1:=HC2.out.cl8 1 rfl
  have u1:=HU2.out.cl8 1 rfl
  have c2:=HC2.out.cl8 2 rfl
  have u2:=HU2.out.cl8 2 rfl
  have c3:=HC2.out.cl8 3 rfl
  have u3:=HU2.out.cl8 3 rfl
  have c4:=HC2.out.cl8 4 rfl
  have u4:=HU2.out.cl8 4 rfl
  have c5:=HC2.out.cl8 5 rfl
  have u5:=HU2.out.cl8 5 rfl
  have c6:=HC2.out.cl8 6 rfl
  have u6:=HU2.out.cl8 6 rfl
  have c7:=HC2.out.cl8 7 rfl
  have u7:=HU2.out.cl8 7 rfl
  have cg:=HC2.out.1
  have ug:=HU2.out.1
  cases q1
  case false =>
   go_wp2_with fail
   go_ret
   exact ⟨ret_bool (B_false (fun h=>B_not.1 Hq1.out ((Hk.out.1 h).1.2))).symm,exts⟩
  go_wp2_with fail
  have hy:=And.intro (B_iff.1 Hq0.out) (B_iff.1 Hq1.out)
  go_ret
  exact ⟨ret_bool (B_true (Hk.out.2 (by simp_all [nil_iff]))).symm,exts⟩
 by_cases h5:ki=5
 case pos =>
  subst h5
  obtain ⟨q0,e0⟩:∃ b,B (0 ≤ wd∧wd ≤ 6)=b:=⟨_,rfl⟩
  have Hq0:=qh e0
  clear e0
  have Hk:=qh (cls_5 nu mo fe re wd st kg)
  by_cases hz:nu=0∧mo=0∧fe=0∧re=0∧st=0∧kg=⟨#[]⟩
  case neg =>
   have Hz:=qh hz
   clear hz
   go_enter Tryz.func229,Tryz.ntmps229
   go_wp2_with fail
   all_goals (first | (go_ret;exact ⟨ret_bool (B_false (fun h=>Hz.out (Hk.out.1 h).2)).symm,exts⟩) | (exfalso;apply Hz.out;simp_all [nil_iff]))
  obtain ⟨rfl,rfl,rfl,rfl,rfl,rfl⟩:=hz
  have HC0:=qh (Boxed.new w [.int .i64 5,.int .i64 0,.int .i64 0,.int .i64 0,.int .i64 0,.int .i64 wd,.int .i64 0,.string ⟨#[]⟩] 191)
  have HU0:=qh (Boxed.new (w.alloc (.cells #[.int .i64 5,.int .i64 0,.int .i64 0,.int .i64 0,.int .i64 0,.int .i64 wd,.int .i64 0,.string ⟨#[]⟩] 191)) [.int .i64 5,.int .i64 0,.int .i64 0,.int .i64 0,.int .i64 0,.int .i64 wd,.int .i64 0,.string ⟨#[]⟩] 191)
  go_enter Tryz.func229,Tryz.ntmps229
  go_wp2_with fail
  refine Calls.mono (spec_l01In wd 0 6 _) ?_
  rintro e w1 ⟨rfl,hE⟩
  rw [Hq0.out]
  have HC1:=qh (show Boxed w1 w.heap.size [.int .i64 5,.int .i64 0,.int .i64 0,.int .i64 0,.int .i64 0,.int .i64 wd,.int .i64 0,.string ⟨#[]⟩] from by rw [← hE];exact HC0.out.ext exts)
  have HU1:=qh (show Boxed w1 (w.heap.size+1) [.int .i64 5,.int .i64 0,.int .i64 0,.int .i64 0,.int .i64 0,.int .i64 wd,.int .i64 0,.string ⟨#[]⟩] from by have t:=HU0.out;rw [World.size_alloc] at t;rw [← hE];exact t.ext exts)
  have hx1:Ext w w1:=by rw [← hE];exact exts
  clear hE
  have c0:=HC1.out.cl8 0 rfl
  have u0:=HU1.out.cl8 0 rfl
  have c1:=HC1.out.cl8 1 rfl
  have u1:=HU1.out.cl8 1 rfl
  have c2:=HC1.out.cl8 2 rfl
  have u2:=HU1.out.cl8 2 rfl
  have c3:=HC1.out.cl8 3 rfl
  have u3:=HU1.out.cl8 3 rfl
  have c4:=HC1.out.cl8 4 rfl
  have u4:=HU1.out.cl8 4 rfl
  have c5:=HC1.out.cl8 5 rfl
  have u5:=HU1.out.cl8 5 rfl
  have c6:=HC1.out.cl8 6 rfl
  have u6:=HU1.out.cl8 6 rfl
  have c7:=HC1.out.cl8 7 rfl
  have u7:=HU1.out.cl8 7 rfl
  have cg:=HC1.out.1
  have ug:=HU1.out.1
  cases q0
  case false =>
   go_wp2_with fail
   go_ret
   exact ⟨ret_bool (B_false (fun h=>B_not.1 Hq0.out ((Hk.out.1 h).1))).symm,exts⟩
  go_wp2_with fail
  have hy:=B_iff.1 Hq0.out
  go_ret
  exact ⟨ret_bool (B_true (Hk.out.2 (by simp_all [nil_iff]))).symm,exts⟩
 have b0:(ki == 0)=false:=by simpa using h0
 have d0:decide (ki=0)=false:=decide_eq_false h0
 have b1:(ki == 1)=false:=by simpa using h1
 have d1:decide (ki=1)=false:=decide_eq_false h1
 have b2:(ki == 2)=false:=by simpa using h2
 have d2:decide (ki=2)=false:=decide_eq_false h2
 have b3:(ki == 3)=false:=by simpa using h3
 have d3:decide (ki=3)=false:=decide_eq_false h3
 have b4:(ki == 4)=false:=by simpa using h4
 have d4:decide (ki=4)=false:=decide_eq_false h4
 have b5:(ki == 5)=false:=by simpa using h5
 have d5:decide (ki=5)=false:=decide_eq_false h5
 have Hn:=qh (cls_no nu mo fe re wd st kg ⟨h0,h1,h2,h3,h4,h5⟩)
 clear h0 h1 h2 h3 h4 h5
 go_enter Tryz.func229,Tryz.ntmps229
 go_wp2_with fail
 go_ret
 exact ⟨ret_bool (B_false Hn.out).symm,exts⟩
end Go.Proofs.YtechbeegbhlppaaGreatDoor
