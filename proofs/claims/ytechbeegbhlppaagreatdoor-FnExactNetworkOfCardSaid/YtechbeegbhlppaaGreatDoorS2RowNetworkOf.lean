/- The row FnExactNetworkOf and its card. -/
import Derived.Test.YtechbeegbhlppaaGreatDoorS2LawNetworkOf
import Derived.Test.YtechbeegbhlppaaGreatDoorS2Ow
import Derived.Test.YtechbeegbhlppaaGreatDoorS2Open
import Derived.Test.YtechbeegbhlppaaGreatDoorTie
import Derived.Test.YtechbeegbhlppaaGreatDoorS2RfFnExactNetworkOf
import Derived.Test.YtechbeegbhlppaaGreatDoorS2RgFnExactNetworkOf
import Derived.Test.YtechbeegbhlppaaGreatDoorCards
import Derived.LaidMore
import Derived.Lay
import Derived.SevenTiedAt
import Derived.Stop.Joined
import Derived.Stop.LaidErr
import Derived.Lib.LaidTab
namespace Go.Proofs.YtechbeegbhlppaaGreatDoor
set_option linter.unusedVariables false
set_option linter.unusedSimpArgs false
open Go.RowKit Go.ChangeShapes Go.WideShapes Go.ChangeAt Go.Deep Go.Joins
theorem lawFnExactNetworkOf_params:∀ t ∈ Tryz.f7.params.toList,Tryz.prog.readableRec t=true∧t < Tryz.prog.types.size:=by
 rw [Tryz.params7]
 intro t ht
 simp only [List.mem_cons,List.not_mem_nil,or_false,or_self] at ht
 rcases ht with rfl | rfl
 all_goals exact ⟨by kernel_rfl,of_decide_eq_true (by kernel_rfl)⟩
theorem lawFnExactNetworkOf_laid {W:World} (h:laidMetH Tryz.prog Rows.fnExactNetworkOfRow.laid W):laidMet Tryz.prog Rows.fnExactNetworkOfRow.laid W:=by
 rw [MakeChecks.laidMetH_plain _ _ _ (by kernel_rfl)] at h
 exact h
set_option maxRecDepth 100000 in
theorem lawFnExactNetworkOf_lifted (os:Os) (started:os.Started) (H:Type) (enc:TypeId × Value → H) :
  ReturnsInHanded {} Tryz.checked os 7 .any (fun w args=>(Rows.fnExactNetworkOfSpec.pre enc Tryz.prog Tryz.f7 Rows.fnExactNetworkOfRow.domain false w args∧laidMetH Tryz.prog Rows.fnExactNetworkOfRow.laid w)∧sizedMet enc Tryz.prog Tryz.f7 (OpenSpec.ofChange Rows.fnExactNetworkOfSpec) false w args) (Rows.fnExactNetworkOfSpec.post enc Tryz.prog Tryz.f7 false true false false):=by
 refine returnsInHanded_of_change_and (C:=Tryz.checked) (X:=fun w _=>laidMetH Tryz.prog Rows.fnExactNetworkOfRow.laid w) (fun _ _ _ hh h=>h.of_heap hh) Tryz.own started (by kernel_rfl) Tryz.func7
  (ChangeSpec.witness_shaped (enc:=enc) (C:=Tryz.checked) (os:=os) (X:=fun w _=>laidMetH Tryz.prog Rows.fnExactNetworkOfRow.laid w) false (World.laidAll Tryz.prog os Rows.fnExactNetworkOfRow.laid) #[.agg #[.slice none 0 0,.int .i64 0,.int .i64 0,.slice none 0 0,.slice none 0 0,.slice none 0 0,.slice none 0 0,.slice none 0 0,.slice none 0 0,.slice none 0 0],.slice none 0 0] 8 (World.laidAll_os _ _ _)
   (World.shaped_of_ZipB (by kernel_rfl) (by kernel_rfl)) (by kernel_rfl) (by kernel_rfl) (by kernel_rfl)
   (by rw [MakeChecks.laidMetH_plain _ _ _ (by kernel_rfl)];exact laidMet_laidAll _ (by kernel_rfl) (by kernel_rfl))) ?_
 intro W base args ds gs before hval0 hW _ _ hL _
 have hval:∀ (j:Nat) t v,Tryz.f7.params[j]? = some t → args[j]? = some v → Value.okWide Tryz.prog W .any base t v:=hval0
 have hW' : DataW.Whole enc Tryz.prog Tryz.f7.params.toList Rows.fnExactNetworkOfSpec.vars false W args.toList ds gs before:=hW
 have hL' := lawFnExactNetworkOf_laid hL
 obtain ⟨p,q,hA0,hV,_,_,_⟩:=hW
 have hA:DataW.TrodAll enc Tryz.prog W 0 (fun _=>true) true Tryz.f7.params.toList args.toList ds p:=hA0
 rw [Tryz.params7] at hA hval
 obtain ⟨v0,vs0,d0,ds0,p0,q0,hargs,rfl,_,h0,r0⟩:=trodAll_cons hA
 obtain ⟨v1,vs1,d1,ds1,p1,q1,rfl,rfl,_,h1,r1⟩:=trodAll_cons r0
 obtain ⟨rfl,rfl,_⟩:=trodAll_nil r1
 obtain rfl:args=#[v0,v1]:=by cases args;simp_all
 obtain ⟨rfl,rfl⟩:=trodVars_none hV
 obtain ⟨a0,b0,c0,e0,f0,g0,i0,k0,W0,rfl,hW0,hz0⟩:=open_world_arg (hval 0 36 v0 rfl rfl) h0
 obtain ⟨l1,hd1,hdz1⟩:=open_DeedS_arg (hval 1 37 v1 rfl rfl) h1
 refine (law_NetworkOf a0 b0 c0 e0 f0 g0 i0 k0 W0 v1 l1 W hW0 hz0 hd1 hdz1).mono fun e W' ⟨he,hx⟩=>?_
 subst he
 exact ⟨_,rfl,law_post rfl rfl lawFnExactNetworkOf_params rfl hW' hx⟩
theorem lawFnExactNetworkOf_facts:joinedFacts Tryz.prog 7 Tryz.f7 Rows.fnExactNetworkOfSpec Rows.fnExactNetworkOfRow=true:=by
 simp only [joinedFacts,Bool.and_eq_true]
 and_intros
 all_goals first | with_reducible exact lawFnExactNetworkOf_e0 | with_reducible exact lawFnExactNetworkOf_e1 | with_reducible exact lawFnExactNetworkOf_e2 | with_reducible exact lawFnExactNetworkOf_e3 | with_reducible exact lawFnExactNetworkOf_e4 | with_reducible exact lawFnExactNetworkOf_e5 | with_reducible exact lawFnExactNetworkOf_e6 | with_reducible exact lawFnExactNetworkOf_e7 | with_reducible exact lawFnExactNetworkOf_e8 | with_reducible exact lawFnExactNetworkOf_e9 | with_reducible exact lawFnExactNetworkOf_e10 | with_reducible exact lawFnExactNetworkOf_e11 | with_reducible exact lawFnExactNetworkOf_e12 | with_reducible exact lawFnExactNetworkOf_e13 | with_reducible exact lawFnExactNetworkOf_e14 | with_reducible exact lawFnExactNetworkOf_e15 | with_reducible exact lawFnExactNetworkOf_e16 | with_reducible exact lawFnExactNetworkOf_e17 | with_reducible exact lawFnExactNetworkOf_e18 | with_reducible exact lawFnExactNetworkOf_e19 | with_reducible exact lawFnExactNetworkOf_e20 | with_reducible exact lawFnExactNetworkOf_e21 | with_reducible exact lawFnExactNetworkOf_e22 | with_reducible exact lawFnExactNetworkOf_e23 | with_reducible exact lawFnExactNetworkOf_e24 | with_reducible exact lawFnExactNetworkOf_e25 | with_reducible exact lawFnExactNetworkOf_e26 | with_reducible exact lawFnExactNetworkOf_e27 | with_reducible exact lawFnExactNetworkOf_e28 | with_reducible exact lawFnExactNetworkOf_e29 | with_reducible exact lawFnExactNetworkOf_e30 | with_reducible exact lawFnExactNetworkOf_e31 | kernel_rfl
theorem lawFnExactNetworkOf_row:Rows.FnExactNetworkOfSaid :=
 OpenClaim.holds_of_wide 7 Tryz.f7 rfl rfl rfl rfl rfl rfl rfl ⟨rfl,rfl,rfl,rfl,rfl⟩ rfl rfl rfl rfl rfl lawFnExactNetworkOf_name Tryz.func7 lawFnExactNetworkOf_facts
  (of_decide_eq_true (by kernel_rfl)) (by unfold Func.isWrapper;first | (rw [if_pos (by decide +kernel)];kernel_rfl) | (rw [if_neg (by decide +kernel)];exact ⟨rfl,rfl⟩))
  (fun os started H enc _=>lawFnExactNetworkOf_lifted os started H enc)
theorem lawFnExactNetworkOf_holds:Rows.FnExactNetworkOfCardSaid :=
 Claim7.holds_tied_plain_at .later [] Rows.fnExactNetworkOfCard.laidKinds true Rows.fnExactNetworkOfCard.stood.harness Rows.fnExactNetworkOfCard.stood.looks lawFnExactNetworkOf_row (fun _ h=>by cases h) lawFnExactNetworkOf_wft (fun _ h=>by cases h) fnExactNetworkOf_row_tie rfl ⟨rfl,rfl⟩ lawFnExactNetworkOf_main rfl
  (fun f fn hf hfn=>by
   obtain rfl:f=7:=Option.some.inj ((lawFnExactNetworkOf_name).symm.trans hf) |>.symm
   obtain rfl:fn=Tryz.f7:=(Option.some.inj (Tryz.func7.symm.trans hfn)).symm
   exact ⟨lawFnExactNetworkOf_looks,fun j t ht=>by
    rw [Tryz.params7] at ht
    have hm:t ∈ [36,37]:=by simpa using Array.mem_of_getElem? ht
    have hall:([36,37].all fun u=>!Tryz.prog.wantsStandIn u)=true:=lawFnExactNetworkOf_standin
    exact (show Tryz.prog.wantsStandIn t=false by simpa using List.all_eq_true.1 hall t hm)⟩)
  lawFnExactNetworkOf_goes
#print axioms lawFnExactNetworkOf_holds
end Go.Proofs.YtechbeegbhlppaaGreatDoor
