/- What is asked of the row FnExactCitedBy of the given program: each by a theorem of its own. -/
import Derived.Test.YtmmokjnljaifcaaGreatDoorRows
import Derived.Test.YtmmokjnljaifcaaGreatDoorCards
import Derived.Test.YtmmokjnljaifcaaGreatDoorTie
import Derived.Stop.Joined
import Derived.SevenTiedAt
import Derived.JoinedOf
namespace Go.Proofs.YtmmokjnljaifcaaGreatDoor
set_option linter.unusedVariables false
set_option linter.unusedSimpArgs false
set_option maxRecDepth 100000 in
theorem lawFnExactCitedBy_e19 : (Tryz.f5.resultTypes.all (fun t => Tryz.prog.readableRec t && decide (t < Tryz.prog.types.size))) = true := by kernel_rfl
set_option maxRecDepth 100000 in
theorem lawFnExactCitedBy_e20 : ((Rows.fnExactCitedByRow.ifacesOut == Tryz.f5.resultTypes.toList.any (Tryz.prog.ifacesRec ·))) = true := by kernel_rfl
set_option maxRecDepth 100000 in
theorem lawFnExactCitedBy_e21 : ((Rows.fnExactCitedByRow.loopsOut == Tryz.f5.resultTypes.toList.any (Tryz.prog.loopsFrom ·))) = true := by kernel_rfl
set_option maxRecDepth 100000 in
theorem lawFnExactCitedBy_e22 : ((Rows.fnExactCitedByRow.plainKeys == Tryz.prog.plainKeys)) = true := by kernel_rfl
set_option maxRecDepth 100000 in
theorem lawFnExactCitedBy_e23 : (Rows.fnExactCitedByRow.shortTexts.isNone) = true := by kernel_rfl
set_option maxRecDepth 100000 in
theorem lawFnExactCitedBy_e24 : (Tryz.prog.stopsHeard) = true := by kernel_rfl
set_option maxRecDepth 100000 in
theorem lawFnExactCitedBy_e25 : (Tryz.prog.mayEnter) = true := by kernel_rfl
set_option maxRecDepth 100000 in
theorem lawFnExactCitedBy_e26 : ((Rows.fnExactCitedByRow.lifted == Tryz.prog.liftsFinal)) = true := by kernel_rfl
set_option maxRecDepth 100000 in
theorem lawFnExactCitedBy_e27 : ((Tryz.prog.make == some Rows.fnExactCitedByRow.make)) = true := by kernel_rfl
set_option maxRecDepth 100000 in
theorem lawFnExactCitedBy_e28 : ((Rows.fnExactCitedByRow.kinds == (if Rows.fnExactCitedByRow.domain.isEmpty then [] else Tryz.f5.params.toList.map fun t => match Tryz.prog.underlying t with | some (.int k) => some k | _ => none))) = true := by kernel_rfl
set_option maxRecDepth 100000 in
theorem lawFnExactCitedBy_e29 : ((Rows.fnExactCitedByRow.pinned == Rows.fnExactCitedByRow.pinnedBy)) = true := by kernel_rfl
set_option maxRecDepth 100000 in
theorem lawFnExactCitedBy_e30 : ((Rows.fnExactCitedByRow.veiled == (Tryz.f5.params.toList ++ Rows.fnExactCitedBySpec.plain.varTypes Tryz.prog ++ Tryz.f5.resultTypes.toList).any (Tryz.prog.veiledRec ·))) = true := by kernel_rfl
set_option maxRecDepth 100000 in
theorem lawFnExactCitedBy_e31 : (Rows.fnExactCitedByRow.veiledFits Tryz.prog Tryz.f5.params.toList (Tryz.f5.params.toList ++ Rows.fnExactCitedBySpec.plain.varTypes Tryz.prog ++ Tryz.f5.resultTypes.toList)) = true := by kernel_rfl
set_option maxRecDepth 100000 in
theorem lawFnExactCitedBy_name : Tryz.prog.funcNamed "loop.example/g01034/laws.FnExactCitedBy" = some 5 := by kernel_rfl
set_option maxRecDepth 100000 in
theorem lawFnExactCitedBy_wft : Rows.fnExactCitedByRow.wfByText (OpenSpec.ofChange Rows.fnExactCitedBySpec) = true := by kernel_rfl
set_option maxRecDepth 100000 in
theorem lawFnExactCitedBy_goes : false = Rows.fnExactCitedByRow.goesBy Tryz.prog := by kernel_rfl
set_option maxRecDepth 100000 in
theorem lawFnExactCitedBy_main : Tryz.prog.mainIs = some (Rows.fnExactCitedByCard.stood.harness.1, Rows.fnExactCitedByCard.stood.harness.2.toList) := by kernel_rfl
set_option maxRecDepth 100000 in
theorem lawFnExactCitedBy_looks : Rows.fnExactCitedByCard.stood.looks = Tryz.prog.looks [] := by kernel_rfl
set_option maxRecDepth 100000 in
theorem lawFnExactCitedBy_standin : ([65, 66, 2].all fun u => !Tryz.prog.wantsStandIn u) = true := by kernel_rfl
end Go.Proofs.YtmmokjnljaifcaaGreatDoor
