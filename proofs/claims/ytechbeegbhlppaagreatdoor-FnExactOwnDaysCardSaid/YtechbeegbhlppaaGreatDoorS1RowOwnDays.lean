/- The row FnExactOwnDays and its card. -/
import Derived.Test.YtechbeegbhlppaaGreatDoorS1LawOwnDays
import Derived.Test.YtechbeegbhlppaaGreatDoorS1Ow
import Derived.Test.YtechbeegbhlppaaGreatDoorS1Open
import Derived.Test.YtechbeegbhlppaaGreatDoorTie
import Derived.Test.YtechbeegbhlppaaGreatDoorS1RfFnExactOwnDays
import Derived.Test.YtechbeegbhlppaaGreatDoorS1RgFnExactOwnDays
import Derived.Test.YtechbeegbhlppaaGreatDoorCards
import Derived.LaidMore
import Derived.Lay
import Derived.SevenTiedAt
import Derived.Stop.Joined
import Derived.Stop.LaidErr
import Derived.Lib.LaidTab
namespace Go.Proofs.YtechbeegbhlppaaGreatDoor
set_option linter.unusedVariables false
set_option linter.unusedSimpArgs false
open Go.RowKit Go.ChangeShapes Go.WideShapes Go.ChangeAt Go.Deep Go.Joins
theorem lawFnExactOwnDays_params:∀ t ∈ Tryz.f5.params.toList,Tryz.prog.readableRec t=true∧t < Tryz.prog.types.size:=by
 rw [Tryz.params5]
 intro t ht
 simp only [List.mem_cons,List.not_mem_nil,or_false,or_self] at ht
 rcases ht with rfl | rfl | rfl
 all_goals exact ⟨by kernel_rfl,of_decide_eq_true (by kernel_rfl)⟩
theorem lawFnExactOwnDays_laid {W:World} (h:laidMetH Tryz.prog Rows.fnExactOwnDaysRow.laid W):laidMet Tryz.prog Rows.fnExactOwnDaysRow.laid W:=by
 rw [MakeChecks.laidMetH_plain _ _ _ (by kernel_rfl)] at h
 exact h
set_option maxRecDepth 100000 in
theorem lawFnExactOwnDays_lifted (os:Os) (started:os.Started) (H:Type) (enc:TypeId × Value → H) :
  ReturnsInHanded {} Tryz.checked os 5 .any (fun w args=>(Rows.fnExactOwnDaysSpec.pre enc Tryz.prog Tryz.f5 Rows.fnExactOwnDaysRow.domain false w args∧laidMetH Tryz.prog Rows.fnExactOwnDaysRow.laid w)∧sizedMet enc Tryz.prog Tryz.f5 (OpenSpec.ofChange Rows.fnExactOwnDaysSpec) false w args) (Rows.fnExactOwnDaysSpec.post enc Tryz.prog Tryz.f5 false true false false):=by
 refine returnsInHanded_of_change_and (C:=Tryz.checked) (X:=fun w _=>laidMetH Tryz.prog Rows.fnExactOwnDaysRow.laid w) (fun _ _ _ hh h=>h.of_heap hh) Tryz.own started (by kernel_rfl) Tryz.func5
  (ChangeSpec.witness_shaped (enc:=enc) (C:=Tryz.checked) (os:=os) (X:=fun w _=>laidMetH Tryz.prog Rows.fnExactOwnDaysRow.laid w) false (World.laidAll Tryz.prog os Rows.fnExactOwnDaysRow.laid) #[.agg #[.slice none 0 0,.int .i64 0,.int .i64 0,.slice none 0 0,.slice none 0 0,.slice none 0 0,.slice none 0 0,.slice none 0 0,.slice none 0 0,.slice none 0 0],.slice none 0 0,.int .i64 0] 8 (World.laidAll_os _ _ _)
   (World.shaped_of_ZipB (by kernel_rfl) (by kernel_rfl)) (by kernel_rfl) (by kernel_rfl) (by kernel_rfl)
   (by rw [MakeChecks.laidMetH_plain _ _ _ (by kernel_rfl)];exact laidMet_laidAll _ (by kernel_rfl) (by kernel_rfl))) ?_
 intro W base args ds gs before hval0 hW _ _ hL _
 have hval:∀ (j:Nat) t v,Tryz.f5.params[j]? = some t → args[j]? = some v → Value.okWide Tryz.prog W .any base t v:=hval0
 have hW' : DataW.Whole enc Tryz.prog Tryz.f5.params.toList Rows.fnExactOwnDaysSpec.vars false W args.toList ds gs before:=hW
 have hL' := lawFnExactOwnDays_laid hL
 obtain ⟨p,q,hA0,hV,_,_,_⟩:=hW
 have hA:DataW.TrodAll enc Tryz.prog W 0 (fun _=>true) true Tryz.f5.params.toList args.toList ds p:=hA0
 rw [Tryz.params5] at hA hval
 obtain ⟨v0,vs0,d0,ds0,p0,q0,hargs,rfl,_,h0,r0⟩:=trodAll_cons hA
 obtain ⟨v1,vs1,d1,ds1,p1,q1,rfl,rfl,_,h1,r1⟩:=trodAll_cons r0
 obtain ⟨v2,vs2,d2,ds2,p2,q2,rfl,rfl,_,h2,r2⟩:=trodAll_cons r1
 obtain ⟨rfl,rfl,_⟩:=trodAll_nil r2
 obtain rfl:args=#[v0,v1,v2]:=by cases args;simp_all
 obtain ⟨rfl,rfl⟩:=trodVars_none hV
 obtain ⟨a0,b0,c0,e0,f0,g0,i0,k0,W0,rfl,hW0,hz0⟩:=open_world_arg (hval 0 36 v0 rfl rfl) h0
 obtain ⟨l1,hd1,hdz1⟩:=open_DeedS_arg (hval 1 37 v1 rfl rfl) h1
 obtain ⟨x2,rfl,rfl,rfl,wx2⟩:=open_int Tryz.underlying2 (hval 2 2 v2 rfl rfl) h2
 refine (law_OwnDays a0 b0 c0 e0 f0 g0 i0 k0 W0 v1 l1 x2 W hW0 hz0 hd1 hdz1 wx2).mono fun e W' ⟨he,hx⟩=>?_
 subst he
 exact ⟨_,rfl,law_post rfl rfl lawFnExactOwnDays_params rfl hW' hx⟩
theorem lawFnExactOwnDays_facts:joinedFacts Tryz.prog 5 Tryz.f5 Rows.fnExactOwnDaysSpec Rows.fnExactOwnDaysRow=true:=by
 simp only [joinedFacts,Bool.and_eq_true]
 and_intros
 all_goals first | with_reducible exact lawFnExactOwnDays_e0 | with_reducible exact lawFnExactOwnDays_e1 | with_reducible exact lawFnExactOwnDays_e2 | with_reducible exact lawFnExactOwnDays_e3 | with_reducible exact lawFnExactOwnDays_e4 | with_reducible exact lawFnExactOwnDays_e5 | with_reducible exact lawFnExactOwnDays_e6 | with_reducible exact lawFnExactOwnDays_e7 | with_reducible exact lawFnExactOwnDays_e8 | with_reducible exact lawFnExactOwnDays_e9 | with_reducible exact lawFnExactOwnDays_e10 | with_reducible exact lawFnExactOwnDays_e11 | with_reducible exact lawFnExactOwnDays_e12 | with_reducible exact lawFnExactOwnDays_e13 | with_reducible exact lawFnExactOwnDays_e14 | with_reducible exact lawFnExactOwnDays_e15 | with_reducible exact lawFnExactOwnDays_e16 | with_reducible exact lawFnExactOwnDays_e17 | with_reducible exact lawFnExactOwnDays_e18 | with_reducible exact lawFnExactOwnDays_e19 | with_reducible exact lawFnExactOwnDays_e20 | with_reducible exact lawFnExactOwnDays_e21 | with_reducible exact lawFnExactOwnDays_e22 | with_reducible exact lawFnExactOwnDays_e23 | with_reducible exact lawFnExactOwnDays_e24 | with_reducible exact lawFnExactOwnDays_e25 | with_reducible exact lawFnExactOwnDays_e26 | with_reducible exact lawFnExactOwnDays_e27 | with_reducible exact lawFnExactOwnDays_e28 | with_reducible exact lawFnExactOwnDays_e29 | with_reducible exact lawFnExactOwnDays_e30 | with_reducible exact lawFnExactOwnDays_e31 | kernel_rfl
theorem lawFnExactOwnDays_row:Rows.FnExactOwnDaysSaid :=
 OpenClaim.holds_of_wide 5 Tryz.f5 rfl rfl rfl rfl rfl rfl rfl ⟨rfl,rfl,rfl,rfl,rfl⟩ rfl rfl rfl rfl rfl lawFnExactOwnDays_name Tryz.func5 lawFnExactOwnDays_facts
  (of_decide_eq_true (by kernel_rfl)) (by unfold Func.isWrapper;first | (rw [if_pos (by decide +kernel)];kernel_rfl) | (rw [if_neg (by decide +kernel)];exact ⟨rfl,rfl⟩))
  (fun os started H enc _=>lawFnExactOwnDays_lifted os started H enc)
theorem lawFnExactOwnDays_holds:Rows.FnExactOwnDaysCardSaid :=
 Claim7.holds_tied_plain_at .later [] Rows.fnExactOwnDaysCard.laidKinds true Rows.fnExactOwnDaysCard.stood.harness Rows.fnExactOwnDaysCard.stood.looks lawFnExactOwnDays_row (fun _ h=>by cases h) lawFnExactOwnDays_wft (fun _ h=>by cases h) fnExactOwnDays_row_tie rfl ⟨rfl,rfl⟩ lawFnExactOwnDays_main rfl
  (fun f fn hf hfn=>by
   obtain rfl:f=5:=Option.some.inj ((lawFnExactOwnDays_name).symm.trans hf) |>.symm
   obtain rfl:fn=Tryz.f5:=(Option.some.inj (Tryz.func5.symm.trans hfn)).symm
   exact ⟨lawFnExactOwnDays_looks,fun j t ht=>by
    rw [Tryz.params5] at ht
    have hm:t ∈ [36,37,2]:=by simpa using Array.mem_of_getElem? ht
    have hall:([36,37,2].all fun u=>!Tryz.prog.wantsStandIn u)=true:=lawFnExactOwnDays_standin
    exact (show Tryz.prog.wantsStandIn t=false by simpa using List.all_eq_true.1 hall t hm)⟩)
  lawFnExactOwnDays_goes
#print axioms lawFnExactOwnDays_holds
end Go.Proofs.YtechbeegbhlppaaGreatDoor
