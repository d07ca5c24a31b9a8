/- What is asked of the row FnExactAreDeeds of the given program: each by a theorem of its own. -/
import Derived.Test.YtmmokjnljaifcaaGreatDoorRows
import Derived.Test.YtmmokjnljaifcaaGreatDoorCards
import Derived.Test.YtmmokjnljaifcaaGreatDoorTie
import Derived.Stop.Joined
import Derived.SevenTiedAt
import Derived.JoinedOf
namespace Go.Proofs.YtmmokjnljaifcaaGreatDoor
set_option linter.unusedVariables false
set_option linter.unusedSimpArgs false
set_option maxRecDepth 100000 in
theorem lawFnExactAreDeeds_e19 : (Tryz.f4.resultTypes.all (fun t => Tryz.prog.readableRec t && decide (t < Tryz.prog.types.size))) = true := by kernel_rfl
set_option maxRecDepth 100000 in
theorem lawFnExactAreDeeds_e20 : ((Rows.fnExactAreDeedsRow.ifacesOut == Tryz.f4.resultTypes.toList.any (Tryz.prog.ifacesRec ·))) = true := by kernel_rfl
set_option maxRecDepth 100000 in
theorem lawFnExactAreDeeds_e21 : ((Rows.fnExactAreDeedsRow.loopsOut == Tryz.f4.resultTypes.toList.any (Tryz.prog.loopsFrom ·))) = true := by kernel_rfl
set_option maxRecDepth 100000 in
theorem lawFnExactAreDeeds_e22 : ((Rows.fnExactAreDeedsRow.plainKeys == Tryz.prog.plainKeys)) = true := by kernel_rfl
set_option maxRecDepth 100000 in
theorem lawFnExactAreDeeds_e23 : (Rows.fnExactAreDeedsRow.shortTexts.isNone) = true := by kernel_rfl
set_option maxRecDepth 100000 in
theorem lawFnExactAreDeeds_e24 : (Tryz.prog.stopsHeard) = true := by kernel_rfl
set_option maxRecDepth 100000 in
theorem lawFnExactAreDeeds_e25 : (Tryz.prog.mayEnter) = true := by kernel_rfl
set_option maxRecDepth 100000 in
theorem lawFnExactAreDeeds_e26 : ((Rows.fnExactAreDeedsRow.lifted == Tryz.prog.liftsFinal)) = true := by kernel_rfl
set_option maxRecDepth 100000 in
theorem lawFnExactAreDeeds_e27 : ((Tryz.prog.make == some Rows.fnExactAreDeedsRow.make)) = true := by kernel_rfl
set_option maxRecDepth 100000 in
theorem lawFnExactAreDeeds_e28 : ((Rows.fnExactAreDeedsRow.kinds == (if Rows.fnExactAreDeedsRow.domain.isEmpty then [] else Tryz.f4.params.toList.map fun t => match Tryz.prog.underlying t with | some (.int k) => some k | _ => none))) = true := by kernel_rfl
set_option maxRecDepth 100000 in
theorem lawFnExactAreDeeds_e29 : ((Rows.fnExactAreDeedsRow.pinned == Rows.fnExactAreDeedsRow.pinnedBy)) = true := by kernel_rfl
set_option maxRecDepth 100000 in
theorem lawFnExactAreDeeds_e30 : ((Rows.fnExactAreDeedsRow.veiled == (Tryz.f4.params.toList ++ Rows.fnExactAreDeedsSpec.plain.varTypes Tryz.prog ++ Tryz.f4.resultTypes.toList).any (Tryz.prog.veiledRec ·))) = true := by kernel_rfl
set_option maxRecDepth 100000 in
theorem lawFnExactAreDeeds_e31 : (Rows.fnExactAreDeedsRow.veiledFits Tryz.prog Tryz.f4.params.toList (Tryz.f4.params.toList ++ Rows.fnExactAreDeedsSpec.plain.varTypes Tryz.prog ++ Tryz.f4.resultTypes.toList)) = true := by kernel_rfl
set_option maxRecDepth 100000 in
theorem lawFnExactAreDeeds_name : Tryz.prog.funcNamed "loop.example/g01034/laws.FnExactAreDeeds" = some 4 := by kernel_rfl
set_option maxRecDepth 100000 in
theorem lawFnExactAreDeeds_wft : Rows.fnExactAreDeedsRow.wfByText (OpenSpec.ofChange Rows.fnExactAreDeedsSpec) = true := by kernel_rfl
set_option maxRecDepth 100000 in
theorem lawFnExactAreDeeds_goes : false = Rows.fnExactAreDeedsRow.goesBy Tryz.prog := by kernel_rfl
set_option maxRecDepth 100000 in
theorem lawFnExactAreDeeds_main : Tryz.prog.mainIs = some (Rows.fnExactAreDeedsCard.stood.harness.1, Rows.fnExactAreDeedsCard.stood.harness.2.toList) := by kernel_rfl
set_option maxRecDepth 100000 in
theorem lawFnExactAreDeeds_looks : Rows.fnExactAreDeedsCard.stood.looks = Tryz.prog.looks [] := by kernel_rfl
set_option maxRecDepth 100000 in
theorem lawFnExactAreDeeds_standin : ([65, 66].all fun u => !Tryz.prog.wantsStandIn u) = true := by kernel_rfl
end Go.Proofs.YtmmokjnljaifcaaGreatDoor
