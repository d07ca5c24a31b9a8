/- The row FnExactSourceDays and its card. -/
import Derived.Test.YtechbeegbhlppaaGreatDoorS1LawSourceDays
import Derived.Test.YtechbeegbhlppaaGreatDoorS1Ow
import Derived.Test.YtechbeegbhlppaaGreatDoorS1Open
import Derived.Test.YtechbeegbhlppaaGreatDoorTie
import Derived.Test.YtechbeegbhlppaaGreatDoorS1RfFnExactSourceDays
import Derived.Test.YtechbeegbhlppaaGreatDoorS1RgFnExactSourceDays
import Derived.Test.YtechbeegbhlppaaGreatDoorCards
import Derived.LaidMore
import Derived.Lay
import Derived.SevenTiedAt
import Derived.Stop.Joined
import Derived.Stop.LaidErr
import Derived.Lib.LaidTab
namespace Go.Proofs.YtechbeegbhlppaaGreatDoor
set_option linter.unusedVariables false
set_option linter.unusedSimpArgs false
open Go.RowKit Go.ChangeShapes Go.WideShapes Go.ChangeAt Go.Deep Go.Joins
theorem lawFnExactSourceDays_params:∀ t ∈ Tryz.f3.params.toList,Tryz.prog.readableRec t=true∧t < Tryz.prog.types.size:=by
 rw [Tryz.params3]
 intro t ht
 simp only [List.mem_cons,List.not_mem_nil,or_false,or_self] at ht
 rcases ht with rfl | rfl | rfl | rfl
 all_goals exact ⟨by kernel_rfl,of_decide_eq_true (by kernel_rfl)⟩
theorem lawFnExactSourceDays_laid {W:World} (h:laidMetH Tryz.prog Rows.fnExactSourceDaysRow.laid W):laidMet Tryz.prog Rows.fnExactSourceDaysRow.laid W:=by
 rw [MakeChecks.laidMetH_plain _ _ _ (by kernel_rfl)] at h
 exact h
set_option maxRecDepth 100000 in
theorem lawFnExactSourceDays_lifted (os:Os) (started:os.Started) (H:Type) (enc:TypeId × Value → H) :
  ReturnsInHanded {} Tryz.checked os 3 .any (fun w args=>(Rows.fnExactSourceDaysSpec.pre enc Tryz.prog Tryz.f3 Rows.fnExactSourceDaysRow.domain false w args∧laidMetH Tryz.prog Rows.fnExactSourceDaysRow.laid w)∧sizedMet enc Tryz.prog Tryz.f3 (OpenSpec.ofChange Rows.fnExactSourceDaysSpec) false w args) (Rows.fnExactSourceDaysSpec.post enc Tryz.prog Tryz.f3 false true false false):=by
 refine returnsInHanded_of_change_and (C:=Tryz.checked) (X:=fun w _=>laidMetH Tryz.prog Rows.fnExactSourceDaysRow.laid w) (fun _ _ _ hh h=>h.of_heap hh) Tryz.own started (by kernel_rfl) Tryz.func3
  (ChangeSpec.witness_shaped (enc:=enc) (C:=Tryz.checked) (os:=os) (X:=fun w _=>laidMetH Tryz.prog Rows.fnExactSourceDaysRow.laid w) false (World.laidAll Tryz.prog os Rows.fnExactSourceDaysRow.laid) #[.agg #[.slice none 0 0,.int .i64 0,.int .i64 0,.slice none 0 0,.slice none 0 0,.slice none 0 0,.slice none 0 0,.slice none 0 0,.slice none 0 0,.slice none 0 0],.slice none 0 0,.int .i64 0,.int .i64 0] 8 (World.laidAll_os _ _ _)
   (World.shaped_of_ZipB (by kernel_rfl) (by kernel_rfl)) (by kernel_rfl) (by kernel_rfl) (by kernel_rfl)
   (by rw [MakeChecks.laidMetH_plain _ _ _ (by kernel_rfl)];exact laidMet_laidAll _ (by kernel_rfl) (by kernel_rfl))) ?_
 intro W base args ds gs before hval0 hW _ _ hL _
 have hval:∀ (j:Nat) t v,Tryz.f3.params[j]? = some t → args[j]? = some v → Value.okWide Tryz.prog W .any base t v:=hval0
 have hW' : DataW.Whole enc Tryz.prog Tryz.f3.params.toList Rows.fnExactSourceDaysSpec.vars false W args.toList ds gs before:=hW
 have hL' := lawFnExactSourceDays_laid hL
 obtain ⟨p,q,hA0,hV,_,_,_⟩:=hW
 have hA:DataW.TrodAll enc Tryz.prog W 0 (fun _=>true) true Tryz.f3.params.toList args.toList ds p:=hA0
 rw [Tryz.params3] at hA hval
 obtain ⟨v0,vs0,d0,ds0,p0,q0,hargs,rfl,_,h0,r0⟩:=trodAll_cons hA
 obtain ⟨v1,vs1,d1,ds1,p1,q1,rfl,rfl,_,h1,r1⟩:=trodAll_cons r0
 obtain ⟨v2,vs2,d2,ds2,p2,q2,rfl,rfl,_,h2,r2⟩:=trodAll_cons r1
 obtain ⟨v3,vs3,d3,ds3,p3,q3,rfl,rfl,_,h3,r3⟩:=trodAll_cons r2
 obtain ⟨rfl,rfl,_⟩:=trodAll_nil r3
 obtain rfl:args=#[v0,v1,v2,v3]:=by cases args;simp_all
 obtain ⟨rfl,rfl⟩:=trodVars_none hV
 obtain ⟨a0,b0,c0,e0,f0,g0,i0,k0,W0,rfl,hW0,hz0⟩:=open_world_arg (hval 0 36 v0 rfl rfl) h0
 obtain ⟨l1,hd1,hdz1⟩:=open_DeedS_arg (hval 1 37 v1 rfl rfl) h1
 obtain ⟨x2,rfl,rfl,rfl,wx2⟩:=open_int Tryz.underlying2 (hval 2 2 v2 rfl rfl) h2
 obtain ⟨x3,rfl,rfl,rfl,wx3⟩:=open_int Tryz.underlying2 (hval 3 2 v3 rfl rfl) h3
 refine (law_SourceDays a0 b0 c0 e0 f0 g0 i0 k0 W0 v1 l1 x2 x3 W hW0 hz0 hd1 hdz1 wx2 wx3).mono fun e W' ⟨he,hx⟩=>?_
 subst he
 exact ⟨_,rfl,law_post rfl rfl lawFnExactSourceDays_params rfl hW' hx⟩
theorem lawFnExactSourceDays_facts:joinedFacts Tryz.prog 3 Tryz.f3 Rows.fnExactSourceDaysSpec Rows.fnExactSourceDaysRow=true:=by
 simp only [joinedFacts,Bool.and_eq_true]
 and_intros
 all_goals first | with_reducible exact lawFnExactSourceDays_e0 | with_reducible exact lawFnExactSourceDays_e1 | with_reducible exact lawFnExactSourceDays_e2 | with_reducible exact lawFnExactSourceDays_e3 | with_reducible exact lawFnExactSourceDays_e4 | with_reducible exact lawFnExactSourceDays_e5 | with_reducible exact lawFnExactSourceDays_e6 | with_reducible exact lawFnExactSourceDays_e7 | with_reducible exact lawFnExactSourceDays_e8 | with_reducible exact lawFnExactSourceDays_e9 | with_reducible exact lawFnExactSourceDays_e10 | with_reducible exact lawFnExactSourceDays_e11 | with_reducible exact lawFnExactSourceDays_e12 | with_reducible exact lawFnExactSourceDays_e13 | with_reducible exact lawFnExactSourceDays_e14 | with_reducible exact lawFnExactSourceDays_e15 | with_reducible exact lawFnExactSourceDays_e16 | with_reducible exact lawFnExactSourceDays_e17 | with_reducible exact lawFnExactSourceDays_e18 | with_reducible exact lawFnExactSourceDays_e19 | with_reducible exact lawFnExactSourceDays_e20 | with_reducible exact lawFnExactSourceDays_e21 | with_reducible exact lawFnExactSourceDays_e22 | with_reducible exact lawFnExactSourceDays_e23 | with_reducible exact lawFnExactSourceDays_e24 | with_reducible exact lawFnExactSourceDays_e25 | with_reducible exact lawFnExactSourceDays_e26 | with_reducible exact lawFnExactSourceDays_e27 | with_reducible exact lawFnExactSourceDays_e28 | with_reducible exact lawFnExactSourceDays_e29 | with_reducible exact lawFnExactSourceDays_e30 | with_reducible exact lawFnExactSourceDays_e31 | kernel_rfl
theorem lawFnExactSourceDays_row:Rows.FnExactSourceDaysSaid :=
 OpenClaim.holds_of_wide 3 Tryz.f3 rfl rfl rfl rfl rfl rfl rfl ⟨rfl,rfl,rfl,rfl,rfl⟩ rfl rfl rfl rfl rfl lawFnExactSourceDays_name Tryz.func3 lawFnExactSourceDays_facts
  (of_decide_eq_true (by kernel_rfl)) (by unfold Func.isWrapper;first | (rw [if_pos (by decide +kernel)];kernel_rfl) | (rw [if_neg (by decide +kernel)];exact ⟨rfl,rfl⟩))
  (fun os started H enc _=>lawFnExactSourceDays_lifted os started H enc)
theorem lawFnExactSourceDays_holds:Rows.FnExactSourceDaysCardSaid :=
 Claim7.holds_tied_plain_at .later [] Rows.fnExactSourceDaysCard.laidKinds true Rows.fnExactSourceDaysCard.stood.harness Rows.fnExactSourceDaysCard.stood.looks lawFnExactSourceDays_row (fun _ h=>by cases h) lawFnExactSourceDays_wft (fun _ h=>by cases h) fnExactSourceDays_row_tie rfl ⟨rfl,rfl⟩ lawFnExactSourceDays_main rfl
  (fun f fn hf hfn=>by
   obtain rfl:f=3:=Option.some.inj ((lawFnExactSourceDays_name).symm.trans hf) |>.symm
   obtain rfl:fn=Tryz.f3:=(Option.some.inj (Tryz.func3.symm.trans hfn)).symm
   exact ⟨lawFnExactSourceDays_looks,fun j t ht=>by
    rw [Tryz.params3] at ht
    have hm:t ∈ [36,37,2,2]:=by simpa using Array.mem_of_getElem? ht
    have hall:([36,37,2,2].all fun u=>!Tryz.prog.wantsStandIn u)=true:=lawFnExactSourceDays_standin
    exact (show Tryz.prog.wantsStandIn t=false by simpa using List.all_eq_true.1 hall t hm)⟩)
  lawFnExactSourceDays_goes
#print axioms lawFnExactSourceDays_holds
end Go.Proofs.YtechbeegbhlppaaGreatDoor
