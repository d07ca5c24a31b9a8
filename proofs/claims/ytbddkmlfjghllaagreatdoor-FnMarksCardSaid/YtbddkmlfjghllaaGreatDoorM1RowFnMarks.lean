/- The row FnMarks and its card. -/
import Derived.Test.YtbddkmlfjghllaaGreatDoorM1LawFnMarks
import Derived.Test.YtbddkmlfjghllaaGreatDoorT1Ob
import Derived.Test.YtbddkmlfjghllaaGreatDoorT1Post
import Derived.Test.YtbddkmlfjghllaaGreatDoorTie
import Derived.Test.YtbddkmlfjghllaaGreatDoorCards
import Derived.LaidMore
import Derived.Lay
import Derived.SevenTiedAt
import Derived.Stop.Joined
import Derived.Stop.LaidErr
import Derived.Lib.LaidTab
namespace Go.Proofs.YtbddkmlfjghllaaGreatDoor
set_option linter.unusedVariables false
set_option linter.unusedSimpArgs false
open Go.RowKit Go.ChangeShapes Go.WideShapes Go.ChangeAt Go.Deep Go.Joins

theorem lawFnMarks_params : ∀ t ∈ Tryz.f3.params.toList, Tryz.prog.readableRec t = true ∧ t < Tryz.prog.types.size := by
  rw [Tryz.params3]
  intro t ht
  simp only [List.mem_cons, List.not_mem_nil, or_false, or_self] at ht
  subst ht
  exact ⟨by kernel_rfl, of_decide_eq_true (by kernel_rfl)⟩
theorem lawFnMarks_laid {W : World} (h : laidMetH Tryz.prog Rows.fnMarksRow.laid W) : laidMet Tryz.prog Rows.fnMarksRow.laid W := by
  rw [MakeChecks.laidMetH_plain _ _ _ (by kernel_rfl)] at h
  exact h

set_option maxRecDepth 100000 in
theorem lawFnMarks_lifted (os : Os) (started : os.Started) (H : Type) (enc : TypeId × Value → H) :
    ReturnsInHanded {} Tryz.checked os 3 .any (fun w args => (Rows.fnMarksSpec.pre enc Tryz.prog Tryz.f3 Rows.fnMarksRow.domain false w args ∧ laidMetH Tryz.prog Rows.fnMarksRow.laid w) ∧ sizedMet enc Tryz.prog Tryz.f3 (OpenSpec.ofChange Rows.fnMarksSpec) false w args) (Rows.fnMarksSpec.post enc Tryz.prog Tryz.f3 false true false false) := by
  refine returnsInHanded_of_change_and (C := Tryz.checked) (X := fun w _ => laidMetH Tryz.prog Rows.fnMarksRow.laid w) (fun _ _ _ hh h => h.of_heap hh) Tryz.own started (by kernel_rfl) Tryz.func3
    (ChangeSpec.witness_shaped (enc := enc) (C := Tryz.checked) (os := os) (X := fun w _ => laidMetH Tryz.prog Rows.fnMarksRow.laid w) false (World.laidAll Tryz.prog os Rows.fnMarksRow.laid) #[.slice none 0 0] 8 (World.laidAll_os _ _ _)
      (World.shaped_of_ZipB (by kernel_rfl) (by kernel_rfl)) (by kernel_rfl) (by kernel_rfl) (by kernel_rfl)
      (by rw [MakeChecks.laidMetH_plain _ _ _ (by kernel_rfl)]; exact laidMet_laidAll _ (by kernel_rfl) (by kernel_rfl))) ?_
  intro W base args ds gs before hval0 hW _ _ hL _
  have hval : ∀ (j : Nat) t v, Tryz.f3.params[j]? = some t → args[j]? = some v → Value.okWide Tryz.prog W .any base t v := hval0
  have hW' : DataW.Whole enc Tryz.prog Tryz.f3.params.toList Rows.fnMarksSpec.vars false W args.toList ds gs before := hW
  have hL' := lawFnMarks_laid hL
  obtain ⟨p, q, hA0, hV, _, _, _⟩ := hW
  have hA : DataW.TrodAll enc Tryz.prog W 0 (fun _ => true) true Tryz.f3.params.toList args.toList ds p := hA0
  rw [Tryz.params3] at hA hval
  obtain ⟨v0, vs0, d0, ds0, p0, q0, hargs, rfl, _, h0, r0⟩ := trodAll_cons hA
  obtain ⟨rfl, rfl, _⟩ := trodAll_nil r0
  obtain rfl : args = #[v0] := by cases args; simp_all
  obtain ⟨rfl, rfl⟩ := trodVars_none hV
  obtain ⟨y0, hy0⟩ := open_bytes_arg (hval 0 22 v0 rfl rfl) h0
  refine (law_FnMarks v0 y0 W hy0).mono fun e W' ⟨he, hx⟩ => ?_
  subst he
  exact ⟨_, rfl, law_post rfl rfl lawFnMarks_params rfl hW' hx⟩

theorem lawFnMarks_f_inPlace : (Rows.fnMarksRow.inPlace == Tryz.prog.inPlace 3) = true := by kernel_rfl
theorem lawFnMarks_f_unfollowed : (Rows.fnMarksRow.unfollowed == Tryz.prog.unfollowed 3) = true := by kernel_rfl
theorem lawFnMarks_f_recurses : (Rows.fnMarksRow.recurses == Tryz.prog.recurses 3) = true := by kernel_rfl
theorem lawFnMarks_f_named : (Rows.fnMarksRow.named == Tryz.prog.varsNamed 3) = true := by kernel_rfl
theorem lawFnMarks_facts : joinedFacts Tryz.prog 3 Tryz.f3 Rows.fnMarksSpec Rows.fnMarksRow = true := by
  simp only [joinedFacts, Bool.and_eq_true]
  and_intros
  all_goals first | with_reducible exact lawFnMarks_f_inPlace | with_reducible exact lawFnMarks_f_unfollowed | with_reducible exact lawFnMarks_f_recurses | with_reducible exact lawFnMarks_f_named | kernel_rfl
theorem lawFnMarks_row : Rows.FnMarksSaid :=
  OpenClaim.holds_of_wide 3 Tryz.f3 rfl rfl rfl rfl rfl rfl rfl ⟨rfl, rfl, rfl, rfl, rfl⟩ rfl rfl rfl rfl rfl (by kernel_rfl) Tryz.func3 lawFnMarks_facts
    (of_decide_eq_true (by kernel_rfl)) (by unfold Func.isWrapper; first | (rw [if_pos (by decide +kernel)]; kernel_rfl) | (rw [if_neg (by decide +kernel)]; exact ⟨rfl, rfl⟩))
    (fun os started H enc _ => lawFnMarks_lifted os started H enc)
theorem lawFnMarks_holds : Rows.FnMarksCardSaid :=
  Claim7.holds_tied_plain_at .later [] Rows.fnMarksCard.laidKinds true Rows.fnMarksCard.stood.harness Rows.fnMarksCard.stood.looks lawFnMarks_row (fun _ h => by cases h) (by kernel_rfl) (fun _ h => by cases h) fnMarks_row_tie rfl ⟨rfl, rfl⟩ (by kernel_rfl) rfl
    (fun f fn hf hfn => by
      obtain rfl : f = 3 := Option.some.inj ((show Tryz.prog.funcNamed "loop.example/g01034/laws.FnMarks" = some 3 by kernel_rfl).symm.trans hf) |>.symm
      obtain rfl : fn = Tryz.f3 := (Option.some.inj (Tryz.func3.symm.trans hfn)).symm
      exact ⟨by kernel_rfl, fun j t ht => by
        rw [Tryz.params3] at ht
        have hm : t ∈ [22] := by simpa using Array.mem_of_getElem? ht
        have hall : ([22].all fun u => !Tryz.prog.wantsStandIn u) = true := by kernel_rfl
        exact (show Tryz.prog.wantsStandIn t = false by simpa using List.all_eq_true.1 hall t hm)⟩)
    (by kernel_rfl)
#print axioms lawFnMarks_holds
end Go.Proofs.YtbddkmlfjghllaaGreatDoor
