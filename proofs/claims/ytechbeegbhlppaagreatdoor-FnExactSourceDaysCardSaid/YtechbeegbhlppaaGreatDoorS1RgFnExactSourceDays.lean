/- What is asked of the row FnExactSourceDays of the given program: each by a theorem of its own. -/
import Derived.Test.YtechbeegbhlppaaGreatDoorRows
import Derived.Test.YtechbeegbhlppaaGreatDoorCards
import Derived.Test.YtechbeegbhlppaaGreatDoorTie
import Derived.Stop.Joined
import Derived.SevenTiedAt
import Derived.JoinedOf
namespace Go.Proofs.YtechbeegbhlppaaGreatDoor
set_option linter.unusedVariables false
set_option linter.unusedSimpArgs false
set_option maxRecDepth 100000 in
theorem lawFnExactSourceDays_e19:(Tryz.f3.resultTypes.all (fun t=>Tryz.prog.readableRec t && decide (t < Tryz.prog.types.size)))=true:=by kernel_rfl
set_option maxRecDepth 100000 in
theorem lawFnExactSourceDays_e20:((Rows.fnExactSourceDaysRow.ifacesOut == Tryz.f3.resultTypes.toList.any (Tryz.prog.ifacesRec ·)))=true:=by kernel_rfl
set_option maxRecDepth 100000 in
theorem lawFnExactSourceDays_e21:((Rows.fnExactSourceDaysRow.loopsOut == Tryz.f3.resultTypes.toList.any (Tryz.prog.loopsFrom ·)))=true:=by kernel_rfl
set_option maxRecDepth 100000 in
theorem lawFnExactSourceDays_e22:((Rows.fnExactSourceDaysRow.plainKeys == Tryz.prog.plainKeys))=true:=by kernel_rfl
set_option maxRecDepth 100000 in
theorem lawFnExactSourceDays_e23:(Rows.fnExactSourceDaysRow.shortTexts.isNone)=true:=by kernel_rfl
set_option maxRecDepth 100000 in
theorem lawFnExactSourceDays_e24:(Tryz.prog.stopsHeard)=true:=by kernel_rfl
set_option maxRecDepth 100000 in
theorem lawFnExactSourceDays_e25:(Tryz.prog.mayEnter)=true:=by kernel_rfl
set_option maxRecDepth 100000 in
theorem lawFnExactSourceDays_e26:((Rows.fnExactSourceDaysRow.lifted == Tryz.prog.liftsFinal))=true:=by kernel_rfl
set_option maxRecDepth 100000 in
theorem lawFnExactSourceDays_e27:((Tryz.prog.make == some Rows.fnExactSourceDaysRow.make))=true:=by kernel_rfl
set_option maxRecDepth 100000 in
theorem lawFnExactSourceDays_e28:((Rows.fnExactSourceDaysRow.kinds == (if Rows.fnExactSourceDaysRow.domain.isEmpty then [] else Tryz.f3.params.toList.map fun t=>match Tryz.prog.underlying t with | some (.int k)=>some k | _=>none)))=true:=by kernel_rfl
set_option maxRecDepth 100000 in
theorem lawFnExactSourceDays_e29:((Rows.fnExactSourceDaysRow.pinned == Rows.fnExactSourceDaysRow.pinnedBy))=true:=by kernel_rfl
set_option maxRecDepth 100000 in
theorem lawFnExactSourceDays_e30:((Rows.fnExactSourceDaysRow.veiled == (Tryz.f3.params.toList ++ Rows.fnExactSourceDaysSpec.plain.varTypes Tryz.prog ++ Tryz.f3.resultTypes.toList).any (Tryz.prog.veiledRec ·)))=true:=by kernel_rfl
set_option maxRecDepth 100000 in
theorem lawFnExactSourceDays_e31:(Rows.fnExactSourceDaysRow.veiledFits Tryz.prog Tryz.f3.params.toList (Tryz.f3.params.toList ++ Rows.fnExactSourceDaysSpec.plain.varTypes Tryz.prog ++ Tryz.f3.resultTypes.toList))=true:=by kernel_rfl
set_option maxRecDepth 100000 in
theorem lawFnExactSourceDays_name : Tryz.prog.funcNamed "loop.example/g01034/laws.FnExactSourceDays" = some 3 := by kernel_rfl
set_option maxRecDepth 100000 in
theorem lawFnExactSourceDays_wft:Rows.fnExactSourceDaysRow.wfByText (OpenSpec.ofChange Rows.fnExactSourceDaysSpec)=true:=by kernel_rfl
set_option maxRecDepth 100000 in
theorem lawFnExactSourceDays_goes:false=Rows.fnExactSourceDaysRow.goesBy Tryz.prog:=by kernel_rfl
set_option maxRecDepth 100000 in
theorem lawFnExactSourceDays_main:Tryz.prog.mainIs=some (Rows.fnExactSourceDaysCard.stood.harness.1,Rows.fnExactSourceDaysCard.stood.harness.2.toList):=by kernel_rfl
set_option maxRecDepth 100000 in
theorem lawFnExactSourceDays_looks:Rows.fnExactSourceDaysCard.stood.looks=Tryz.prog.looks []:=by kernel_rfl
set_option maxRecDepth 100000 in
theorem lawFnExactSourceDays_standin:([36,37,2,2].all fun u=>!Tryz.prog.wantsStandIn u)=true:=by kernel_rfl
end Go.Proofs.YtechbeegbhlppaaGreatDoor
