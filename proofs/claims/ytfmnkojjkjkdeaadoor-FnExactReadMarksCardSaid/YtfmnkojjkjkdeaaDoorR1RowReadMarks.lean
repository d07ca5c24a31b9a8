/- For every string the law FnExactReadMarks returns true: the program's ReadMarks answers as the reference's. The library's variables that the row lists lie as the text lays them (tied); no other condition. -/
import Derived.Test.YtfmnkojjkjkdeaaDoorR1LawReadMarks
import Derived.Test.YtfmnkojjkjkdeaaDoorR1Jo
import Derived.Test.YtfmnkojjkjkdeaaDoorR1Post
import Derived.Test.YtfmnkojjkjkdeaaDoorTie
import Derived.Test.YtfmnkojjkjkdeaaDoorCards
import Derived.LaidMore
import Derived.Lay
import Derived.SevenTiedAt
import Derived.Stop.Joined
import Derived.Stop.LaidErr
import Derived.Lib.LaidTab
import Derived.Test.YtfmnkojjkjkdeaaDoorR1Hw
namespace Go.Proofs.YtfmnkojjkjkdeaaDoor
set_option linter.unusedVariables false
set_option linter.unusedSimpArgs false
open Go.RowKit Go.ChangeShapes Go.WideShapes Go.ChangeAt Go.Deep Go.Joins

theorem lawFnExactReadMarks_params : ∀ t ∈ Tryd.f5.params.toList, Tryd.prog.readableRec t = true ∧ t < Tryd.prog.types.size := by
  rw [Tryd.params5]
  intro t ht
  simp only [List.mem_cons, List.not_mem_nil, or_false, or_self] at ht
  subst ht
  exact ⟨by kernel_rfl, of_decide_eq_true (by kernel_rfl)⟩
theorem lawFnExactReadMarks_laid {W : World} (h : laidMetH Tryd.prog Rows.fnExactReadMarksRow.laid W) : laidMet Tryd.prog Rows.fnExactReadMarksRow.laid W := by
  rw [MakeChecks.laidMetH_plain _ _ _ (by kernel_rfl)] at h
  exact h
theorem lawFnExactReadMarks_tab {W : World} (h : laidMet Tryd.prog Rows.fnExactReadMarksRow.laid W) : TabW W :=
  Lib.tabIs_of_head (P := Tryd.prog) (g := 1) (t := 151) (e := 123) (n := 20) (by kernel_rfl) (by kernel_rfl) Tryd.underlying151 Tryd.underlying123 (by kernel_rfl) (by kernel_rfl) h.tail.tail
theorem lawFnExactReadMarks_row_err (u : TypeId) (h : Tryd.prog.typeName? 3 u = some "*errors.errorString") : u = 185 :=
  typeName_ptr_named (nm := "errors.errorString") (by rw [show ("*" ++ "errors.errorString") = "*errors.errorString" by decide]; kernel_rfl) (by kernel_rfl) (by decide) u (by rw [show ("*" ++ "errors.errorString") = "*errors.errorString" by decide]; exact h)
theorem lawFnExactReadMarks_syn {W : World} (h : laidMet Tryd.prog Rows.fnExactReadMarksRow.laid W) : ErrW 2 W :=
  ErrW.of_laid (ti := 105) (tp := 185) (te := 187) (ts := 9) h.tail.tail.tail.tail.tail (by kernel_rfl) (by kernel_rfl) Tryd.underlying105 lawFnExactReadMarks_row_err Tryd.underlying185 Tryd.underlying187 rfl rfl Tryd.underlying9 (by kernel_rfl) (by kernel_rfl)
theorem lawFnExactReadMarks_rng {W : World} (h : laidMet Tryd.prog Rows.fnExactReadMarksRow.laid W) : ErrW 3 W :=
  ErrW.of_laid (ti := 105) (tp := 185) (te := 187) (ts := 9) h.tail.tail.tail.tail (by kernel_rfl) (by kernel_rfl) Tryd.underlying105 lawFnExactReadMarks_row_err Tryd.underlying185 Tryd.underlying187 rfl rfl Tryd.underlying9 (by kernel_rfl) (by kernel_rfl)

set_option maxRecDepth 100000 in
theorem lawFnExactReadMarks_lifted (os : Os) (started : os.Started) (H : Type) (enc : TypeId × Value → H) :
    ReturnsInHanded {} Tryd.checked os 5 .any (fun w args => (Rows.fnExactReadMarksSpec.pre enc Tryd.prog Tryd.f5 Rows.fnExactReadMarksRow.domain false w args ∧ laidMetH Tryd.prog Rows.fnExactReadMarksRow.laid w) ∧ sizedMet enc Tryd.prog Tryd.f5 (OpenSpec.ofChange Rows.fnExactReadMarksSpec) false w args) (Rows.fnExactReadMarksSpec.post enc Tryd.prog Tryd.f5 false true false false) := by
  refine returnsInHanded_and_shaped (C := Tryd.checked) (X := fun w _ => laidMetH Tryd.prog Rows.fnExactReadMarksRow.laid w) (fun _ _ _ hh h => h.of_heap hh) Tryd.own started (by kernel_rfl) Tryd.func5
    (ChangeSpec.witness_shaped (enc := enc) (C := Tryd.checked) (os := os) (X := fun w _ => laidMetH Tryd.prog Rows.fnExactReadMarksRow.laid w) false (World.laidAll Tryd.prog os Rows.fnExactReadMarksRow.laid) #[.string ⟨#[]⟩] 8 (World.laidAll_os _ _ _)
      (World.shaped_of_ZipB (by kernel_rfl) (by kernel_rfl)) (by kernel_rfl) (by kernel_rfl) (by kernel_rfl)
      (by rw [MakeChecks.laidMetH_plain _ _ _ (by kernel_rfl)]; exact laidMet_laidAll _ (by kernel_rfl) (by kernel_rfl))) ?_
  intro W base args ds gs before hsh hval0 hW _ _ hL _
  have hval : ∀ (j : Nat) t v, Tryd.f5.params[j]? = some t → args[j]? = some v → Value.okWide Tryd.prog W .any base t v := hval0
  have hW' : DataW.Whole enc Tryd.prog Tryd.f5.params.toList Rows.fnExactReadMarksSpec.vars false W args.toList ds gs before := hW
  have hL' := lawFnExactReadMarks_laid hL
  obtain ⟨p, q, hA0, hV, _, _, _⟩ := hW
  have hA : DataW.TrodAll enc Tryd.prog W 0 (fun _ => true) true Tryd.f5.params.toList args.toList ds p := hA0
  rw [Tryd.params5] at hA hval
  obtain ⟨v0, vs0, d0, ds0, p0, q0, hargs, rfl, _, h0, r0⟩ := trodAll_cons hA
  obtain ⟨rfl, rfl, _⟩ := trodAll_nil r0
  obtain rfl : args = #[v0] := by cases args; simp_all
  obtain ⟨rfl, rfl⟩ := trodVars_none hV
  obtain ⟨x0, rfl, hxz0⟩ := open_str_arg (hval 0 9 v0 rfl rfl) h0
  refine (law_ReadMarks x0 W  (lawFnExactReadMarks_tab hL') (MaxW.of hsh) (lawFnExactReadMarks_syn hL') (lawFnExactReadMarks_rng hL')).mono fun e W' ⟨he, hx⟩ => ?_
  subst he
  exact ⟨_, rfl, law_post rfl rfl lawFnExactReadMarks_params rfl hW' hx⟩

theorem lawFnExactReadMarks_row : Rows.FnExactReadMarksSaid :=
  OpenClaim.holds_of_wide 5 Tryd.f5 rfl rfl rfl rfl rfl rfl rfl ⟨rfl, rfl, rfl, rfl, rfl⟩ rfl rfl rfl rfl rfl (by kernel_rfl) Tryd.func5 (by kernel_rfl)
    (of_decide_eq_true (by kernel_rfl)) (by unfold Func.isWrapper; first | (rw [if_pos (by decide +kernel)]; kernel_rfl) | (rw [if_neg (by decide +kernel)]; exact ⟨rfl, rfl⟩))
    (fun os started H enc _ => lawFnExactReadMarks_lifted os started H enc)
theorem lawFnExactReadMarks_holds : Rows.FnExactReadMarksCardSaid :=
  Claim7.holds_tied_plain_at .later [] Rows.fnExactReadMarksCard.laidKinds true Rows.fnExactReadMarksCard.stood.harness Rows.fnExactReadMarksCard.stood.looks lawFnExactReadMarks_row (fun _ h => by cases h) (by kernel_rfl) (fun _ h => by cases h) fnExactReadMarks_row_tie rfl ⟨rfl, rfl⟩ (by kernel_rfl) rfl
    (fun f fn hf hfn => by
      obtain rfl : f = 5 := Option.some.inj ((show Tryd.prog.funcNamed "loop.example/g01034/laws.FnExactReadMarks" = some 5 by kernel_rfl).symm.trans hf) |>.symm
      obtain rfl : fn = Tryd.f5 := (Option.some.inj (Tryd.func5.symm.trans hfn)).symm
      exact ⟨by kernel_rfl, fun j t ht => by
        rw [Tryd.params5] at ht
        have hm : t ∈ [9] := by simpa using Array.mem_of_getElem? ht
        have hall : ([9].all fun u => !Tryd.prog.wantsStandIn u) = true := by kernel_rfl
        exact (show Tryd.prog.wantsStandIn t = false by simpa using List.all_eq_true.1 hall t hm)⟩)
    (by kernel_rfl)
#print axioms lawFnExactReadMarks_holds
end Go.Proofs.YtfmnkojjkjkdeaaDoor
