/- What is asked of the row FnExactCitingOrder of the given program: each by a theorem of its own. -/
import Derived.Test.YtmmokjnljaifcaaGreatDoorRows
import Derived.Test.YtmmokjnljaifcaaGreatDoorCards
import Derived.Test.YtmmokjnljaifcaaGreatDoorTie
import Derived.Stop.Joined
import Derived.SevenTiedAt
import Derived.JoinedOf
namespace Go.Proofs.YtmmokjnljaifcaaGreatDoor
set_option linter.unusedVariables false
set_option linter.unusedSimpArgs false
set_option maxRecDepth 100000 in
theorem lawFnExactCitingOrder_e19 : (Tryz.f6.resultTypes.all (fun t => Tryz.prog.readableRec t && decide (t < Tryz.prog.types.size))) = true := by kernel_rfl
set_option maxRecDepth 100000 in
theorem lawFnExactCitingOrder_e20 : ((Rows.fnExactCitingOrderRow.ifacesOut == Tryz.f6.resultTypes.toList.any (Tryz.prog.ifacesRec ·))) = true := by kernel_rfl
set_option maxRecDepth 100000 in
theorem lawFnExactCitingOrder_e21 : ((Rows.fnExactCitingOrderRow.loopsOut == Tryz.f6.resultTypes.toList.any (Tryz.prog.loopsFrom ·))) = true := by kernel_rfl
set_option maxRecDepth 100000 in
theorem lawFnExactCitingOrder_e22 : ((Rows.fnExactCitingOrderRow.plainKeys == Tryz.prog.plainKeys)) = true := by kernel_rfl
set_option maxRecDepth 100000 in
theorem lawFnExactCitingOrder_e23 : (Rows.fnExactCitingOrderRow.shortTexts.isNone) = true := by kernel_rfl
set_option maxRecDepth 100000 in
theorem lawFnExactCitingOrder_e24 : (Tryz.prog.stopsHeard) = true := by kernel_rfl
set_option maxRecDepth 100000 in
theorem lawFnExactCitingOrder_e25 : (Tryz.prog.mayEnter) = true := by kernel_rfl
set_option maxRecDepth 100000 in
theorem lawFnExactCitingOrder_e26 : ((Rows.fnExactCitingOrderRow.lifted == Tryz.prog.liftsFinal)) = true := by kernel_rfl
set_option maxRecDepth 100000 in
theorem lawFnExactCitingOrder_e27 : ((Tryz.prog.make == some Rows.fnExactCitingOrderRow.make)) = true := by kernel_rfl
set_option maxRecDepth 100000 in
theorem lawFnExactCitingOrder_e28 : ((Rows.fnExactCitingOrderRow.kinds == (if Rows.fnExactCitingOrderRow.domain.isEmpty then [] else Tryz.f6.params.toList.map fun t => match Tryz.prog.underlying t with | some (.int k) => some k | _ => none))) = true := by kernel_rfl
set_option maxRecDepth 100000 in
theorem lawFnExactCitingOrder_e29 : ((Rows.fnExactCitingOrderRow.pinned == Rows.fnExactCitingOrderRow.pinnedBy)) = true := by kernel_rfl
set_option maxRecDepth 100000 in
theorem lawFnExactCitingOrder_e30 : ((Rows.fnExactCitingOrderRow.veiled == (Tryz.f6.params.toList ++ Rows.fnExactCitingOrderSpec.plain.varTypes Tryz.prog ++ Tryz.f6.resultTypes.toList).any (Tryz.prog.veiledRec ·))) = true := by kernel_rfl
set_option maxRecDepth 100000 in
theorem lawFnExactCitingOrder_e31 : (Rows.fnExactCitingOrderRow.veiledFits Tryz.prog Tryz.f6.params.toList (Tryz.f6.params.toList ++ Rows.fnExactCitingOrderSpec.plain.varTypes Tryz.prog ++ Tryz.f6.resultTypes.toList)) = true := by kernel_rfl
set_option maxRecDepth 100000 in
theorem lawFnExactCitingOrder_name : Tryz.prog.funcNamed "loop.example/g01034/laws.FnExactCitingOrder" = some 6 := by kernel_rfl
set_option maxRecDepth 100000 in
theorem lawFnExactCitingOrder_wft : Rows.fnExactCitingOrderRow.wfByText (OpenSpec.ofChange Rows.fnExactCitingOrderSpec) = true := by kernel_rfl
set_option maxRecDepth 100000 in
theorem lawFnExactCitingOrder_goes : false = Rows.fnExactCitingOrderRow.goesBy Tryz.prog := by kernel_rfl
set_option maxRecDepth 100000 in
theorem lawFnExactCitingOrder_main : Tryz.prog.mainIs = some (Rows.fnExactCitingOrderCard.stood.harness.1, Rows.fnExactCitingOrderCard.stood.harness.2.toList) := by kernel_rfl
set_option maxRecDepth 100000 in
theorem lawFnExactCitingOrder_looks : Rows.fnExactCitingOrderCard.stood.looks = Tryz.prog.looks [] := by kernel_rfl
set_option maxRecDepth 100000 in
theorem lawFnExactCitingOrder_standin : ([65, 66].all fun u => !Tryz.prog.wantsStandIn u) = true := by kernel_rfl
end Go.Proofs.YtmmokjnljaifcaaGreatDoor
