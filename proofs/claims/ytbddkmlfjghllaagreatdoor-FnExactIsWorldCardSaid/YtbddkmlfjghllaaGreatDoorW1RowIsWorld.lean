/- The row FnExactIsWorld and its card. -/
import Derived.Test.YtbddkmlfjghllaaGreatDoorW1LawIsWorld
import Derived.Test.YtbddkmlfjghllaaGreatDoorW1Ow
import Derived.Test.YtbddkmlfjghllaaGreatDoorW1Post
import Derived.Test.YtbddkmlfjghllaaGreatDoorTie
import Derived.Test.YtbddkmlfjghllaaGreatDoorCards
import Derived.LaidMore
import Derived.Lay
import Derived.SevenTiedAt
import Derived.Stop.Joined
import Derived.Stop.LaidErr
import Derived.Lib.LaidTab
namespace Go.Proofs.YtbddkmlfjghllaaGreatDoor
set_option linter.unusedVariables false
set_option linter.unusedSimpArgs false
open Go.RowKit Go.ChangeShapes Go.WideShapes Go.ChangeAt Go.Deep Go.Joins

theorem lawFnExactIsWorld_params : ∀ t ∈ Tryz.f4.params.toList, Tryz.prog.readableRec t = true ∧ t < Tryz.prog.types.size := by
  rw [Tryz.params4]
  intro t ht
  simp only [List.mem_cons, List.not_mem_nil, or_false, or_self] at ht
  subst ht
  exact ⟨by kernel_rfl, of_decide_eq_true (by kernel_rfl)⟩
theorem lawFnExactIsWorld_laid {W : World} (h : laidMetH Tryz.prog Rows.fnExactIsWorldRow.laid W) : laidMet Tryz.prog Rows.fnExactIsWorldRow.laid W := by
  rw [MakeChecks.laidMetH_plain _ _ _ (by kernel_rfl)] at h
  exact h

set_option maxRecDepth 100000 in
theorem lawFnExactIsWorld_lifted (os : Os) (started : os.Started) (H : Type) (enc : TypeId × Value → H) :
    ReturnsInHanded {} Tryz.checked os 4 .any (fun w args => (Rows.fnExactIsWorldSpec.pre enc Tryz.prog Tryz.f4 Rows.fnExactIsWorldRow.domain false w args ∧ laidMetH Tryz.prog Rows.fnExactIsWorldRow.laid w) ∧ sizedMet enc Tryz.prog Tryz.f4 (OpenSpec.ofChange Rows.fnExactIsWorldSpec) false w args) (Rows.fnExactIsWorldSpec.post enc Tryz.prog Tryz.f4 false true false false) := by
  refine returnsInHanded_of_change_and (C := Tryz.checked) (X := fun w _ => laidMetH Tryz.prog Rows.fnExactIsWorldRow.laid w) (fun _ _ _ hh h => h.of_heap hh) Tryz.own started (by kernel_rfl) Tryz.func4
    (ChangeSpec.witness_shaped (enc := enc) (C := Tryz.checked) (os := os) (X := fun w _ => laidMetH Tryz.prog Rows.fnExactIsWorldRow.laid w) false (World.laidAll Tryz.prog os Rows.fnExactIsWorldRow.laid) #[.agg #[.slice none 0 0, .int .i64 0, .int .i64 0, .slice none 0 0, .slice none 0 0, .slice none 0 0, .slice none 0 0, .slice none 0 0, .slice none 0 0, .slice none 0 0]] 8 (World.laidAll_os _ _ _)
      (World.shaped_of_ZipB (by kernel_rfl) (by kernel_rfl)) (by kernel_rfl) (by kernel_rfl) (by kernel_rfl)
      (by rw [MakeChecks.laidMetH_plain _ _ _ (by kernel_rfl)]; exact laidMet_laidAll _ (by kernel_rfl) (by kernel_rfl))) ?_
  intro W base args ds gs before hval0 hW _ _ hL _
  have hval : ∀ (j : Nat) t v, Tryz.f4.params[j]? = some t → args[j]? = some v → Value.okWide Tryz.prog W .any base t v := hval0
  have hW' : DataW.Whole enc Tryz.prog Tryz.f4.params.toList Rows.fnExactIsWorldSpec.vars false W args.toList ds gs before := hW
  have hL' := lawFnExactIsWorld_laid hL
  obtain ⟨p, q, hA0, hV, _, _, _⟩ := hW
  have hA : DataW.TrodAll enc Tryz.prog W 0 (fun _ => true) true Tryz.f4.params.toList args.toList ds p := hA0
  rw [Tryz.params4] at hA hval
  obtain ⟨v0, vs0, d0, ds0, p0, q0, hargs, rfl, _, h0, r0⟩ := trodAll_cons hA
  obtain ⟨rfl, rfl, _⟩ := trodAll_nil r0
  obtain rfl : args = #[v0] := by cases args; simp_all
  obtain ⟨rfl, rfl⟩ := trodVars_none hV
  obtain ⟨a0, b0, c0, e0, f0, g0, i0, k0, W0, rfl, hW0, hz0⟩ := open_world_arg (hval 0 57 v0 rfl rfl) h0
  refine (law_IsWorld a0 b0 c0 e0 f0 g0 i0 k0 W0 W hW0 hz0).mono fun e W' ⟨he, hx⟩ => ?_
  subst he
  exact ⟨_, rfl, law_post rfl rfl lawFnExactIsWorld_params rfl hW' hx⟩

theorem lawFnExactIsWorld_f_inPlace : (Rows.fnExactIsWorldRow.inPlace == Tryz.prog.inPlace 4) = true := by kernel_rfl
theorem lawFnExactIsWorld_f_unfollowed : (Rows.fnExactIsWorldRow.unfollowed == Tryz.prog.unfollowed 4) = true := by kernel_rfl
theorem lawFnExactIsWorld_f_recurses : (Rows.fnExactIsWorldRow.recurses == Tryz.prog.recurses 4) = true := by kernel_rfl
theorem lawFnExactIsWorld_f_named : (Rows.fnExactIsWorldRow.named == Tryz.prog.varsNamed 4) = true := by kernel_rfl
theorem lawFnExactIsWorld_facts : joinedFacts Tryz.prog 4 Tryz.f4 Rows.fnExactIsWorldSpec Rows.fnExactIsWorldRow = true := by
  simp only [joinedFacts, Bool.and_eq_true]
  and_intros
  all_goals first | with_reducible exact lawFnExactIsWorld_f_inPlace | with_reducible exact lawFnExactIsWorld_f_unfollowed | with_reducible exact lawFnExactIsWorld_f_recurses | with_reducible exact lawFnExactIsWorld_f_named | kernel_rfl
theorem lawFnExactIsWorld_row : Rows.FnExactIsWorldSaid :=
  OpenClaim.holds_of_wide 4 Tryz.f4 rfl rfl rfl rfl rfl rfl rfl ⟨rfl, rfl, rfl, rfl, rfl⟩ rfl rfl rfl rfl rfl (by kernel_rfl) Tryz.func4 lawFnExactIsWorld_facts
    (of_decide_eq_true (by kernel_rfl)) (by unfold Func.isWrapper; first | (rw [if_pos (by decide +kernel)]; kernel_rfl) | (rw [if_neg (by decide +kernel)]; exact ⟨rfl, rfl⟩))
    (fun os started H enc _ => lawFnExactIsWorld_lifted os started H enc)
theorem lawFnExactIsWorld_holds : Rows.FnExactIsWorldCardSaid :=
  Claim7.holds_tied_plain_at .later [] Rows.fnExactIsWorldCard.laidKinds true Rows.fnExactIsWorldCard.stood.harness Rows.fnExactIsWorldCard.stood.looks lawFnExactIsWorld_row (fun _ h => by cases h) (by kernel_rfl) (fun _ h => by cases h) fnExactIsWorld_row_tie rfl ⟨rfl, rfl⟩ (by kernel_rfl) rfl
    (fun f fn hf hfn => by
      obtain rfl : f = 4 := Option.some.inj ((show Tryz.prog.funcNamed "loop.example/g01034/laws.FnExactIsWorld" = some 4 by kernel_rfl).symm.trans hf) |>.symm
      obtain rfl : fn = Tryz.f4 := (Option.some.inj (Tryz.func4.symm.trans hfn)).symm
      exact ⟨by kernel_rfl, fun j t ht => by
        rw [Tryz.params4] at ht
        have hm : t ∈ [57] := by simpa using Array.mem_of_getElem? ht
        have hall : ([57].all fun u => !Tryz.prog.wantsStandIn u) = true := by kernel_rfl
        exact (show Tryz.prog.wantsStandIn t = false by simpa using List.all_eq_true.1 hall t hm)⟩)
    (by kernel_rfl)
#print axioms lawFnExactIsWorld_holds
end Go.Proofs.YtbddkmlfjghllaaGreatDoor
