/- The row FnMarkTexts and its card. -/
import Derived.Test.YtbddkmlfjghllaaGreatDoorT1LawFnMarkTexts
import Derived.Test.YtbddkmlfjghllaaGreatDoorT1Ob
import Derived.Test.YtbddkmlfjghllaaGreatDoorT1Post
import Derived.Test.YtbddkmlfjghllaaGreatDoorTie
import Derived.Test.YtbddkmlfjghllaaGreatDoorCards
import Derived.LaidMore
import Derived.Lay
import Derived.SevenTiedAt
import Derived.Stop.Joined
import Derived.Stop.LaidErr
import Derived.Lib.LaidTab
import Derived.Test.YtbddkmlfjghllaaGreatDoorT1Hw
namespace Go.Proofs.YtbddkmlfjghllaaGreatDoor
set_option linter.unusedVariables false
set_option linter.unusedSimpArgs false
open Go.RowKit Go.ChangeShapes Go.WideShapes Go.ChangeAt Go.Deep Go.Joins

theorem lawFnMarkTexts_params : ∀ t ∈ Tryz.f5.params.toList, Tryz.prog.readableRec t = true ∧ t < Tryz.prog.types.size := by
  rw [Tryz.params5]
  intro t ht
  simp only [List.mem_cons, List.not_mem_nil, or_false, or_self] at ht
  subst ht
  exact ⟨by kernel_rfl, of_decide_eq_true (by kernel_rfl)⟩
theorem lawFnMarkTexts_laid {W : World} (h : laidMetH Tryz.prog Rows.fnMarkTextsRow.laid W) : laidMet Tryz.prog Rows.fnMarkTextsRow.laid W := by
  rw [MakeChecks.laidMetH_plain _ _ _ (by kernel_rfl)] at h
  exact h
theorem lawFnMarkTexts_tab {W : World} (h : laidMet Tryz.prog Rows.fnMarkTextsRow.laid W) : TabW W :=
  Lib.tabIs_of_head (P := Tryz.prog) (g := 5) (t := 311) (e := 85) (n := 20) (by kernel_rfl) (by kernel_rfl) Tryz.underlying311 Tryz.underlying85 (by kernel_rfl) (by kernel_rfl) h.tail.tail
theorem lawFnMarkTexts_row_err (u : TypeId) (h : Tryz.prog.typeName? 3 u = some "*errors.errorString") : u = 314 :=
  typeName_ptr_named (nm := "errors.errorString") (by rw [show ("*" ++ "errors.errorString") = "*errors.errorString" by decide]; kernel_rfl) (by kernel_rfl) (by decide) u (by rw [show ("*" ++ "errors.errorString") = "*errors.errorString" by decide]; exact h)
theorem lawFnMarkTexts_syn {W : World} (h : laidMet Tryz.prog Rows.fnMarkTextsRow.laid W) : ErrW 1 W :=
  ErrW.of_laid (ti := 189) (tp := 314) (te := 316) (ts := 9) h.tail.tail.tail.tail.tail (by kernel_rfl) (by kernel_rfl) Tryz.underlying189 lawFnMarkTexts_row_err Tryz.underlying314 Tryz.underlying316 rfl rfl Tryz.underlying9 (by kernel_rfl) (by kernel_rfl)
theorem lawFnMarkTexts_rng {W : World} (h : laidMet Tryz.prog Rows.fnMarkTextsRow.laid W) : ErrW 2 W :=
  ErrW.of_laid (ti := 189) (tp := 314) (te := 316) (ts := 9) h.tail.tail.tail.tail (by kernel_rfl) (by kernel_rfl) Tryz.underlying189 lawFnMarkTexts_row_err Tryz.underlying314 Tryz.underlying316 rfl rfl Tryz.underlying9 (by kernel_rfl) (by kernel_rfl)

set_option maxRecDepth 100000 in
theorem lawFnMarkTexts_lifted (os : Os) (started : os.Started) (H : Type) (enc : TypeId × Value → H) :
    ReturnsInHanded {} Tryz.checked os 5 .any (fun w args => (Rows.fnMarkTextsSpec.pre enc Tryz.prog Tryz.f5 Rows.fnMarkTextsRow.domain false w args ∧ laidMetH Tryz.prog Rows.fnMarkTextsRow.laid w) ∧ sizedMet enc Tryz.prog Tryz.f5 (OpenSpec.ofChange Rows.fnMarkTextsSpec) false w args) (Rows.fnMarkTextsSpec.post enc Tryz.prog Tryz.f5 false true false false) := by
  refine returnsInHanded_and_shaped (C := Tryz.checked) (X := fun w _ => laidMetH Tryz.prog Rows.fnMarkTextsRow.laid w) (fun _ _ _ hh h => h.of_heap hh) Tryz.own started (by kernel_rfl) Tryz.func5
    (ChangeSpec.witness_shaped (enc := enc) (C := Tryz.checked) (os := os) (X := fun w _ => laidMetH Tryz.prog Rows.fnMarkTextsRow.laid w) false (World.laidAll Tryz.prog os Rows.fnMarkTextsRow.laid) #[.slice none 0 0] 8 (World.laidAll_os _ _ _)
      (World.shaped_of_ZipB (by kernel_rfl) (by kernel_rfl)) (by kernel_rfl) (by kernel_rfl) (by kernel_rfl)
      (by rw [MakeChecks.laidMetH_plain _ _ _ (by kernel_rfl)]; exact laidMet_laidAll _ (by kernel_rfl) (by kernel_rfl))) ?_
  intro W base args ds gs before hsh hval0 hW _ _ hL _
  have hval : ∀ (j : Nat) t v, Tryz.f5.params[j]? = some t → args[j]? = some v → Value.okWide Tryz.prog W .any base t v := hval0
  have hW' : DataW.Whole enc Tryz.prog Tryz.f5.params.toList Rows.fnMarkTextsSpec.vars false W args.toList ds gs before := hW
  have hL' := lawFnMarkTexts_laid hL
  obtain ⟨p, q, hA0, hV, _, _, _⟩ := hW
  have hA : DataW.TrodAll enc Tryz.prog W 0 (fun _ => true) true Tryz.f5.params.toList args.toList ds p := hA0
  rw [Tryz.params5] at hA hval
  obtain ⟨v0, vs0, d0, ds0, p0, q0, hargs, rfl, _, h0, r0⟩ := trodAll_cons hA
  obtain ⟨rfl, rfl, _⟩ := trodAll_nil r0
  obtain rfl : args = #[v0] := by cases args; simp_all
  obtain ⟨rfl, rfl⟩ := trodVars_none hV
  obtain ⟨y0, hy0⟩ := open_bytes_arg (hval 0 22 v0 rfl rfl) h0
  refine (law_FnMarkTexts v0 y0 W hy0 (lawFnMarkTexts_tab hL') (MaxW.of hsh) (lawFnMarkTexts_syn hL') (lawFnMarkTexts_rng hL')).mono fun e W' ⟨he, hx⟩ => ?_
  subst he
  exact ⟨_, rfl, law_post rfl rfl lawFnMarkTexts_params rfl hW' hx⟩

theorem lawFnMarkTexts_f_inPlace : (Rows.fnMarkTextsRow.inPlace == Tryz.prog.inPlace 5) = true := by kernel_rfl
theorem lawFnMarkTexts_f_unfollowed : (Rows.fnMarkTextsRow.unfollowed == Tryz.prog.unfollowed 5) = true := by kernel_rfl
theorem lawFnMarkTexts_f_recurses : (Rows.fnMarkTextsRow.recurses == Tryz.prog.recurses 5) = true := by kernel_rfl
theorem lawFnMarkTexts_f_named : (Rows.fnMarkTextsRow.named == Tryz.prog.varsNamed 5) = true := by kernel_rfl
theorem lawFnMarkTexts_facts : joinedFacts Tryz.prog 5 Tryz.f5 Rows.fnMarkTextsSpec Rows.fnMarkTextsRow = true := by
  simp only [joinedFacts, Bool.and_eq_true]
  and_intros
  all_goals first | with_reducible exact lawFnMarkTexts_f_inPlace | with_reducible exact lawFnMarkTexts_f_unfollowed | with_reducible exact lawFnMarkTexts_f_recurses | with_reducible exact lawFnMarkTexts_f_named | kernel_rfl
theorem lawFnMarkTexts_row : Rows.FnMarkTextsSaid :=
  OpenClaim.holds_of_wide 5 Tryz.f5 rfl rfl rfl rfl rfl rfl rfl ⟨rfl, rfl, rfl, rfl, rfl⟩ rfl rfl rfl rfl rfl (by kernel_rfl) Tryz.func5 lawFnMarkTexts_facts
    (of_decide_eq_true (by kernel_rfl)) (by unfold Func.isWrapper; first | (rw [if_pos (by decide +kernel)]; kernel_rfl) | (rw [if_neg (by decide +kernel)]; exact ⟨rfl, rfl⟩))
    (fun os started H enc _ => lawFnMarkTexts_lifted os started H enc)
theorem lawFnMarkTexts_holds : Rows.FnMarkTextsCardSaid :=
  Claim7.holds_tied_plain_at .later [] Rows.fnMarkTextsCard.laidKinds true Rows.fnMarkTextsCard.stood.harness Rows.fnMarkTextsCard.stood.looks lawFnMarkTexts_row (fun _ h => by cases h) (by kernel_rfl) (fun _ h => by cases h) fnMarkTexts_row_tie rfl ⟨rfl, rfl⟩ (by kernel_rfl) rfl
    (fun f fn hf hfn => by
      obtain rfl : f = 5 := Option.some.inj ((show Tryz.prog.funcNamed "loop.example/g01034/laws.FnMarkTexts" = some 5 by kernel_rfl).symm.trans hf) |>.symm
      obtain rfl : fn = Tryz.f5 := (Option.some.inj (Tryz.func5.symm.trans hfn)).symm
      exact ⟨by kernel_rfl, fun j t ht => by
        rw [Tryz.params5] at ht
        have hm : t ∈ [22] := by simpa using Array.mem_of_getElem? ht
        have hall : ([22].all fun u => !Tryz.prog.wantsStandIn u) = true := by kernel_rfl
        exact (show Tryz.prog.wantsStandIn t = false by simpa using List.all_eq_true.1 hall t hm)⟩)
    (by kernel_rfl)
#print axioms lawFnMarkTexts_holds
end Go.Proofs.YtbddkmlfjghllaaGreatDoor
