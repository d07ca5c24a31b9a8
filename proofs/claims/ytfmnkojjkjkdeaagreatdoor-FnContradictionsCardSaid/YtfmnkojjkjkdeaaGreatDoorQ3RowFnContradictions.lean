/- For every argument the law FnContradictions returns true and leaves its arguments as they were. The library's tables that the row lists lie as the text lays them (tied); no other condition. -/
import Derived.Test.YtfmnkojjkjkdeaaGreatDoorQ3LawFnContradictions
import Derived.Test.YtfmnkojjkjkdeaaGreatDoorQ3Ob
import Derived.Test.YtfmnkojjkjkdeaaGreatDoorQ3Post
import Derived.Test.YtfmnkojjkjkdeaaGreatDoorTie
import Derived.Test.YtfmnkojjkjkdeaaGreatDoorCards
import Derived.LaidMore
import Derived.Lay
import Derived.SevenTiedAt
import Derived.Stop.Joined
import Derived.Stop.LaidErr
import Derived.Lib.LaidTab
namespace Go.Proofs.YtfmnkojjkjkdeaaGreatDoor
set_option linter.unusedVariables false
set_option linter.unusedSimpArgs false
open Go.RowKit Go.ChangeShapes Go.WideShapes Go.ChangeAt Go.Deep Go.Joins

theorem lawFnContradictions_params : ∀ t ∈ Tryz.f3.params.toList, Tryz.prog.readableRec t = true ∧ t < Tryz.prog.types.size := by
  rw [Tryz.params3]
  intro t ht
  simp only [List.mem_cons, List.not_mem_nil, or_false, or_self] at ht
  subst ht
  exact ⟨by kernel_rfl, of_decide_eq_true (by kernel_rfl)⟩
theorem lawFnContradictions_laid {W : World} (h : laidMetH Tryz.prog Rows.fnContradictionsRow.laid W) : laidMet Tryz.prog Rows.fnContradictionsRow.laid W := by
  rw [MakeChecks.laidMetH_plain _ _ _ (by kernel_rfl)] at h
  exact h
theorem lawFnContradictions_tab {W : World} (h : laidMet Tryz.prog Rows.fnContradictionsRow.laid W) : TabW W :=
  Lib.tabIs_of_head (P := Tryz.prog) (g := 1) (t := 330) (e := 100) (n := 20) (by kernel_rfl) (by kernel_rfl) Tryz.underlying330 Tryz.underlying100 (by kernel_rfl) (by kernel_rfl) h.tail.tail

set_option maxRecDepth 100000 in
theorem lawFnContradictions_lifted (os : Os) (started : os.Started) (H : Type) (enc : TypeId × Value → H) :
    ReturnsInHanded {} Tryz.checked os 3 .any (fun w args => (Rows.fnContradictionsSpec.pre enc Tryz.prog Tryz.f3 Rows.fnContradictionsRow.domain false w args ∧ laidMetH Tryz.prog Rows.fnContradictionsRow.laid w) ∧ sizedMet enc Tryz.prog Tryz.f3 (OpenSpec.ofChange Rows.fnContradictionsSpec) false w args) (Rows.fnContradictionsSpec.post enc Tryz.prog Tryz.f3 false true false false) := by
  refine returnsInHanded_of_change_and (C := Tryz.checked) (X := fun w _ => laidMetH Tryz.prog Rows.fnContradictionsRow.laid w) (fun _ _ _ hh h => h.of_heap hh) Tryz.own started (by kernel_rfl) Tryz.func3
    (ChangeSpec.witness_shaped (enc := enc) (C := Tryz.checked) (os := os) (X := fun w _ => laidMetH Tryz.prog Rows.fnContradictionsRow.laid w) false (World.laidAll Tryz.prog os Rows.fnContradictionsRow.laid) #[.slice none 0 0] 8 (World.laidAll_os _ _ _)
      (World.shaped_of_ZipB (by kernel_rfl) (by kernel_rfl)) (by kernel_rfl) (by kernel_rfl) (by kernel_rfl)
      (by rw [MakeChecks.laidMetH_plain _ _ _ (by kernel_rfl)]; exact laidMet_laidAll _ (by kernel_rfl) (by kernel_rfl))) ?_
  intro W base args ds gs before hval0 hW _ _ hL _
  have hval : ∀ (j : Nat) t v, Tryz.f3.params[j]? = some t → args[j]? = some v → Value.okWide Tryz.prog W .any base t v := hval0
  have hW' : DataW.Whole enc Tryz.prog Tryz.f3.params.toList Rows.fnContradictionsSpec.vars false W args.toList ds gs before := hW
  have hL' := lawFnContradictions_laid hL
  obtain ⟨p, q, hA0, hV, _, _, _⟩ := hW
  have hA : DataW.TrodAll enc Tryz.prog W 0 (fun _ => true) true Tryz.f3.params.toList args.toList ds p := hA0
  rw [Tryz.params3] at hA hval
  obtain ⟨v0, vs0, d0, ds0, p0, q0, hargs, rfl, _, h0, r0⟩ := trodAll_cons hA
  obtain ⟨rfl, rfl, _⟩ := trodAll_nil r0
  obtain rfl : args = #[v0] := by cases args; simp_all
  obtain ⟨rfl, rfl⟩ := trodVars_none hV
  obtain ⟨y0, hy0⟩ := open_bytes_arg (hval 0 22 v0 rfl rfl) h0
  refine (law_FnContradictions v0 y0 W hy0 (lawFnContradictions_tab hL')).mono fun e W' ⟨he, hx⟩ => ?_
  subst he
  exact ⟨_, rfl, law_post rfl rfl lawFnContradictions_params rfl hW' hx⟩

theorem lawFnContradictions_row : Rows.FnContradictionsSaid :=
  OpenClaim.holds_of_wide 3 Tryz.f3 rfl rfl rfl rfl rfl rfl rfl ⟨rfl, rfl, rfl, rfl, rfl⟩ rfl rfl rfl rfl rfl (by kernel_rfl) Tryz.func3 (by kernel_rfl)
    (of_decide_eq_true (by kernel_rfl)) (by unfold Func.isWrapper; first | (rw [if_pos (by decide +kernel)]; kernel_rfl) | (rw [if_neg (by decide +kernel)]; exact ⟨rfl, rfl⟩))
    (fun os started H enc _ => lawFnContradictions_lifted os started H enc)
theorem lawFnContradictions_holds : Rows.FnContradictionsCardSaid :=
  Claim7.holds_tied_plain_at .later [] Rows.fnContradictionsCard.laidKinds true Rows.fnContradictionsCard.stood.harness Rows.fnContradictionsCard.stood.looks lawFnContradictions_row (fun _ h => by cases h) (by kernel_rfl) (fun _ h => by cases h) fnContradictions_row_tie rfl ⟨rfl, rfl⟩ (by kernel_rfl) rfl
    (fun f fn hf hfn => by
      obtain rfl : f = 3 := Option.some.inj ((show Tryz.prog.funcNamed "loop.example/g01034/laws.FnContradictions" = some 3 by kernel_rfl).symm.trans hf) |>.symm
      obtain rfl : fn = Tryz.f3 := (Option.some.inj (Tryz.func3.symm.trans hfn)).symm
      exact ⟨by kernel_rfl, fun j t ht => by
        rw [Tryz.params3] at ht
        have hm : t ∈ [22] := by simpa using Array.mem_of_getElem? ht
        have hall : ([22].all fun u => !Tryz.prog.wantsStandIn u) = true := by kernel_rfl
        exact (show Tryz.prog.wantsStandIn t = false by simpa using List.all_eq_true.1 hall t hm)⟩)
    (by kernel_rfl)
#print axioms lawFnContradictions_holds
end Go.Proofs.YtfmnkojjkjkdeaaGreatDoor
