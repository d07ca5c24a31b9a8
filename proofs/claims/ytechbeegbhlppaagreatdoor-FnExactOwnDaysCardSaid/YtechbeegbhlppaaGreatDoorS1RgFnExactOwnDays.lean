/- What is asked of the row FnExactOwnDays of the given program: each by a theorem of its own. -/
import Derived.Test.YtechbeegbhlppaaGreatDoorRows
import Derived.Test.YtechbeegbhlppaaGreatDoorCards
import Derived.Test.YtechbeegbhlppaaGreatDoorTie
import Derived.Stop.Joined
import Derived.SevenTiedAt
import Derived.JoinedOf
namespace Go.Proofs.YtechbeegbhlppaaGreatDoor
set_option linter.unusedVariables false
set_option linter.unusedSimpArgs false
set_option maxRecDepth 100000 in
theorem lawFnExactOwnDays_e19:(Tryz.f5.resultTypes.all (fun t=>Tryz.prog.readableRec t && decide (t < Tryz.prog.types.size)))=true:=by kernel_rfl
set_option maxRecDepth 100000 in
theorem lawFnExactOwnDays_e20:((Rows.fnExactOwnDaysRow.ifacesOut == Tryz.f5.resultTypes.toList.any (Tryz.prog.ifacesRec ·)))=true:=by kernel_rfl
set_option maxRecDepth 100000 in
theorem lawFnExactOwnDays_e21:((Rows.fnExactOwnDaysRow.loopsOut == Tryz.f5.resultTypes.toList.any (Tryz.prog.loopsFrom ·)))=true:=by kernel_rfl
set_option maxRecDepth 100000 in
theorem lawFnExactOwnDays_e22:((Rows.fnExactOwnDaysRow.plainKeys == Tryz.prog.plainKeys))=true:=by kernel_rfl
set_option maxRecDepth 100000 in
theorem lawFnExactOwnDays_e23:(Rows.fnExactOwnDaysRow.shortTexts.isNone)=true:=by kernel_rfl
set_option maxRecDepth 100000 in
theorem lawFnExactOwnDays_e24:(Tryz.prog.stopsHeard)=true:=by kernel_rfl
set_option maxRecDepth 100000 in
theorem lawFnExactOwnDays_e25:(Tryz.prog.mayEnter)=true:=by kernel_rfl
set_option maxRecDepth 100000 in
theorem lawFnExactOwnDays_e26:((Rows.fnExactOwnDaysRow.lifted == Tryz.prog.liftsFinal))=true:=by kernel_rfl
set_option maxRecDepth 100000 in
theorem lawFnExactOwnDays_e27:((Tryz.prog.make == some Rows.fnExactOwnDaysRow.make))=true:=by kernel_rfl
set_option maxRecDepth 100000 in
theorem lawFnExactOwnDays_e28:((Rows.fnExactOwnDaysRow.kinds == (if Rows.fnExactOwnDaysRow.domain.isEmpty then [] else Tryz.f5.params.toList.map fun t=>match Tryz.prog.underlying t with | some (.int k)=>some k | _=>none)))=true:=by kernel_rfl
set_option maxRecDepth 100000 in
theorem lawFnExactOwnDays_e29:((Rows.fnExactOwnDaysRow.pinned == Rows.fnExactOwnDaysRow.pinnedBy))=true:=by kernel_rfl
set_option maxRecDepth 100000 in
theorem lawFnExactOwnDays_e30:((Rows.fnExactOwnDaysRow.veiled == (Tryz.f5.params.toList ++ Rows.fnExactOwnDaysSpec.plain.varTypes Tryz.prog ++ Tryz.f5.resultTypes.toList).any (Tryz.prog.veiledRec ·)))=true:=by kernel_rfl
set_option maxRecDepth 100000 in
theorem lawFnExactOwnDays_e31:(Rows.fnExactOwnDaysRow.veiledFits Tryz.prog Tryz.f5.params.toList (Tryz.f5.params.toList ++ Rows.fnExactOwnDaysSpec.plain.varTypes Tryz.prog ++ Tryz.f5.resultTypes.toList))=true:=by kernel_rfl
set_option maxRecDepth 100000 in
theorem lawFnExactOwnDays_name : Tryz.prog.funcNamed "loop.example/g01034/laws.FnExactOwnDays" = some 5 := by kernel_rfl
set_option maxRecDepth 100000 in
theorem lawFnExactOwnDays_wft:Rows.fnExactOwnDaysRow.wfByText (OpenSpec.ofChange Rows.fnExactOwnDaysSpec)=true:=by kernel_rfl
set_option maxRecDepth 100000 in
theorem lawFnExactOwnDays_goes:false=Rows.fnExactOwnDaysRow.goesBy Tryz.prog:=by kernel_rfl
set_option maxRecDepth 100000 in
theorem lawFnExactOwnDays_main:Tryz.prog.mainIs=some (Rows.fnExactOwnDaysCard.stood.harness.1,Rows.fnExactOwnDaysCard.stood.harness.2.toList):=by kernel_rfl
set_option maxRecDepth 100000 in
theorem lawFnExactOwnDays_looks:Rows.fnExactOwnDaysCard.stood.looks=Tryz.prog.looks []:=by kernel_rfl
set_option maxRecDepth 100000 in
theorem lawFnExactOwnDays_standin:([36,37,2].all fun u=>!Tryz.prog.wantsStandIn u)=true:=by kernel_rfl
end Go.Proofs.YtechbeegbhlppaaGreatDoor
