/- For every argument the law FnExactMarkDays returns true and leaves its arguments as they were: the program's MarkDays answers as the reference's. The library's tables that the row lists lie as the text lays them (tied); no other condition. -/
import Derived.Test.YtfmnkojjkjkdeaaDoorLawMarkDays
import Derived.Test.YtfmnkojjkjkdeaaDoorJo
import Derived.Test.YtfmnkojjkjkdeaaDoorPost
import Derived.Test.YtfmnkojjkjkdeaaDoorTie
import Derived.Test.YtfmnkojjkjkdeaaDoorCards
import Derived.LaidMore
import Derived.Lay
import Derived.SevenTiedAt
import Derived.Stop.Joined
import Derived.Stop.LaidErr
import Derived.Lib.LaidTab
namespace Go.Proofs.YtfmnkojjkjkdeaaDoor
set_option linter.unusedVariables false
set_option linter.unusedSimpArgs false
open Go.RowKit Go.ChangeShapes Go.WideShapes Go.ChangeAt Go.Deep Go.Joins

theorem lawFnExactMarkDays_params : ∀ t ∈ Tryd.f4.params.toList, Tryd.prog.readableRec t = true ∧ t < Tryd.prog.types.size := by
  rw [Tryd.params4]
  intro t ht
  simp only [List.mem_cons, List.not_mem_nil, or_false, or_self] at ht
  rcases ht with rfl | rfl
  all_goals exact ⟨by kernel_rfl, of_decide_eq_true (by kernel_rfl)⟩
theorem lawFnExactMarkDays_laid {W : World} (h : laidMetH Tryd.prog Rows.fnExactMarkDaysRow.laid W) : laidMet Tryd.prog Rows.fnExactMarkDaysRow.laid W := by
  rw [MakeChecks.laidMetH_plain _ _ _ (by kernel_rfl)] at h
  exact h

set_option maxRecDepth 100000 in
theorem lawFnExactMarkDays_lifted (os : Os) (started : os.Started) (H : Type) (enc : TypeId × Value → H) :
    ReturnsInHanded {} Tryd.checked os 4 .any (fun w args => (Rows.fnExactMarkDaysSpec.pre enc Tryd.prog Tryd.f4 Rows.fnExactMarkDaysRow.domain false w args ∧ laidMetH Tryd.prog Rows.fnExactMarkDaysRow.laid w) ∧ sizedMet enc Tryd.prog Tryd.f4 (OpenSpec.ofChange Rows.fnExactMarkDaysSpec) false w args) (Rows.fnExactMarkDaysSpec.post enc Tryd.prog Tryd.f4 false true false false) := by
  refine returnsInHanded_of_change_and (C := Tryd.checked) (X := fun w _ => laidMetH Tryd.prog Rows.fnExactMarkDaysRow.laid w) (fun _ _ _ hh h => h.of_heap hh) Tryd.own started (by kernel_rfl) Tryd.func4
    (ChangeSpec.witness_shaped (enc := enc) (C := Tryd.checked) (os := os) (X := fun w _ => laidMetH Tryd.prog Rows.fnExactMarkDaysRow.laid w) false (World.laidAll Tryd.prog os Rows.fnExactMarkDaysRow.laid) #[.slice none 0 0, .string ⟨#[]⟩] 8 (World.laidAll_os _ _ _)
      (World.shaped_of_ZipB (by kernel_rfl) (by kernel_rfl)) (by kernel_rfl) (by kernel_rfl) (by kernel_rfl)
      (by rw [MakeChecks.laidMetH_plain _ _ _ (by kernel_rfl)]; exact laidMet_laidAll _ (by kernel_rfl) (by kernel_rfl))) ?_
  intro W base args ds gs before hval0 hW _ _ hL _
  have hval : ∀ (j : Nat) t v, Tryd.f4.params[j]? = some t → args[j]? = some v → Value.okWide Tryd.prog W .any base t v := hval0
  have hW' : DataW.Whole enc Tryd.prog Tryd.f4.params.toList Rows.fnExactMarkDaysSpec.vars false W args.toList ds gs before := hW
  have hL' := lawFnExactMarkDays_laid hL
  obtain ⟨p, q, hA0, hV, _, _, _⟩ := hW
  have hA : DataW.TrodAll enc Tryd.prog W 0 (fun _ => true) true Tryd.f4.params.toList args.toList ds p := hA0
  rw [Tryd.params4] at hA hval
  obtain ⟨v0, vs0, d0, ds0, p0, q0, hargs, rfl, _, h0, r0⟩ := trodAll_cons hA
  obtain ⟨v1, vs1, d1, ds1, p1, q1, rfl, rfl, _, h1, r1⟩ := trodAll_cons r0
  obtain ⟨rfl, rfl, _⟩ := trodAll_nil r1
  obtain rfl : args = #[v0, v1] := by cases args; simp_all
  obtain ⟨rfl, rfl⟩ := trodVars_none hV
  obtain ⟨l0, hm0, hz0⟩ := open_MarkS_arg (hval 0 36 v0 rfl rfl) h0
  obtain ⟨x1, rfl, hxz1⟩ := open_str_arg (hval 1 9 v1 rfl rfl) h1
  refine (law_MarkDays v0 l0 x1 W hm0 (fun i hi => by have := hz0 i hi; unfold maxLen at this; omega) ).mono fun e W' ⟨he, hx⟩ => ?_
  subst he
  exact ⟨_, rfl, law_post rfl rfl lawFnExactMarkDays_params rfl hW' hx⟩

theorem lawFnExactMarkDays_row : Rows.FnExactMarkDaysSaid :=
  OpenClaim.holds_of_wide 4 Tryd.f4 rfl rfl rfl rfl rfl rfl rfl ⟨rfl, rfl, rfl, rfl, rfl⟩ rfl rfl rfl rfl rfl (by kernel_rfl) Tryd.func4 (by kernel_rfl)
    (of_decide_eq_true (by kernel_rfl)) (by unfold Func.isWrapper; first | (rw [if_pos (by decide +kernel)]; kernel_rfl) | (rw [if_neg (by decide +kernel)]; exact ⟨rfl, rfl⟩))
    (fun os started H enc _ => lawFnExactMarkDays_lifted os started H enc)
theorem lawFnExactMarkDays_holds : Rows.FnExactMarkDaysCardSaid :=
  Claim7.holds_tied_plain_at .later [] Rows.fnExactMarkDaysCard.laidKinds true Rows.fnExactMarkDaysCard.stood.harness Rows.fnExactMarkDaysCard.stood.looks lawFnExactMarkDays_row (fun _ h => by cases h) (by kernel_rfl) (fun _ h => by cases h) fnExactMarkDays_row_tie rfl ⟨rfl, rfl⟩ (by kernel_rfl) rfl
    (fun f fn hf hfn => by
      obtain rfl : f = 4 := Option.some.inj ((show Tryd.prog.funcNamed "loop.example/g01034/laws.FnExactMarkDays" = some 4 by kernel_rfl).symm.trans hf) |>.symm
      obtain rfl : fn = Tryd.f4 := (Option.some.inj (Tryd.func4.symm.trans hfn)).symm
      exact ⟨by kernel_rfl, fun j t ht => by
        rw [Tryd.params4] at ht
        have hm : t ∈ [36, 9] := by simpa using Array.mem_of_getElem? ht
        have hall : ([36, 9].all fun u => !Tryd.prog.wantsStandIn u) = true := by kernel_rfl
        exact (show Tryd.prog.wantsStandIn t = false by simpa using List.all_eq_true.1 hall t hm)⟩)
    (by kernel_rfl)
#print axioms lawFnExactMarkDays_holds
end Go.Proofs.YtfmnkojjkjkdeaaDoor
