/- What is asked of the row FnExactNetworkOf of the given program: each by a theorem of its own. -/
import Derived.Test.YtechbeegbhlppaaGreatDoorRows
import Derived.Test.YtechbeegbhlppaaGreatDoorCards
import Derived.Test.YtechbeegbhlppaaGreatDoorTie
import Derived.Stop.Joined
import Derived.SevenTiedAt
import Derived.JoinedOf
namespace Go.Proofs.YtechbeegbhlppaaGreatDoor
set_option linter.unusedVariables false
set_option linter.unusedSimpArgs false
set_option maxRecDepth 100000 in
theorem lawFnExactNetworkOf_e19:(Tryz.f7.resultTypes.all (fun t=>Tryz.prog.readableRec t && decide (t < Tryz.prog.types.size)))=true:=by kernel_rfl
set_option maxRecDepth 100000 in
theorem lawFnExactNetworkOf_e20:((Rows.fnExactNetworkOfRow.ifacesOut == Tryz.f7.resultTypes.toList.any (Tryz.prog.ifacesRec ·)))=true:=by kernel_rfl
set_option maxRecDepth 100000 in
theorem lawFnExactNetworkOf_e21:((Rows.fnExactNetworkOfRow.loopsOut == Tryz.f7.resultTypes.toList.any (Tryz.prog.loopsFrom ·)))=true:=by kernel_rfl
set_option maxRecDepth 100000 in
theorem lawFnExactNetworkOf_e22:((Rows.fnExactNetworkOfRow.plainKeys == Tryz.prog.plainKeys))=true:=by kernel_rfl
set_option maxRecDepth 100000 in
theorem lawFnExactNetworkOf_e23:(Rows.fnExactNetworkOfRow.shortTexts.isNone)=true:=by kernel_rfl
set_option maxRecDepth 100000 in
theorem lawFnExactNetworkOf_e24:(Tryz.prog.stopsHeard)=true:=by kernel_rfl
set_option maxRecDepth 100000 in
theorem lawFnExactNetworkOf_e25:(Tryz.prog.mayEnter)=true:=by kernel_rfl
set_option maxRecDepth 100000 in
theorem lawFnExactNetworkOf_e26:((Rows.fnExactNetworkOfRow.lifted == Tryz.prog.liftsFinal))=true:=by kernel_rfl
set_option maxRecDepth 100000 in
theorem lawFnExactNetworkOf_e27:((Tryz.prog.make == some Rows.fnExactNetworkOfRow.make))=true:=by kernel_rfl
set_option maxRecDepth 100000 in
theorem lawFnExactNetworkOf_e28:((Rows.fnExactNetworkOfRow.kinds == (if Rows.fnExactNetworkOfRow.domain.isEmpty then [] else Tryz.f7.params.toList.map fun t=>match Tryz.prog.underlying t with | some (.int k)=>some k | _=>none)))=true:=by kernel_rfl
set_option maxRecDepth 100000 in
theorem lawFnExactNetworkOf_e29:((Rows.fnExactNetworkOfRow.pinned == Rows.fnExactNetworkOfRow.pinnedBy))=true:=by kernel_rfl
set_option maxRecDepth 100000 in
theorem lawFnExactNetworkOf_e30:((Rows.fnExactNetworkOfRow.veiled == (Tryz.f7.params.toList ++ Rows.fnExactNetworkOfSpec.plain.varTypes Tryz.prog ++ Tryz.f7.resultTypes.toList).any (Tryz.prog.veiledRec ·)))=true:=by kernel_rfl
set_option maxRecDepth 100000 in
theorem lawFnExactNetworkOf_e31:(Rows.fnExactNetworkOfRow.veiledFits Tryz.prog Tryz.f7.params.toList (Tryz.f7.params.toList ++ Rows.fnExactNetworkOfSpec.plain.varTypes Tryz.prog ++ Tryz.f7.resultTypes.toList))=true:=by kernel_rfl
set_option maxRecDepth 100000 in
theorem lawFnExactNetworkOf_name : Tryz.prog.funcNamed "loop.example/g01034/laws.FnExactNetworkOf" = some 7 := by kernel_rfl
set_option maxRecDepth 100000 in
theorem lawFnExactNetworkOf_wft:Rows.fnExactNetworkOfRow.wfByText (OpenSpec.ofChange Rows.fnExactNetworkOfSpec)=true:=by kernel_rfl
set_option maxRecDepth 100000 in
theorem lawFnExactNetworkOf_goes:false=Rows.fnExactNetworkOfRow.goesBy Tryz.prog:=by kernel_rfl
set_option maxRecDepth 100000 in
theorem lawFnExactNetworkOf_main:Tryz.prog.mainIs=some (Rows.fnExactNetworkOfCard.stood.harness.1,Rows.fnExactNetworkOfCard.stood.harness.2.toList):=by kernel_rfl
set_option maxRecDepth 100000 in
theorem lawFnExactNetworkOf_looks:Rows.fnExactNetworkOfCard.stood.looks=Tryz.prog.looks []:=by kernel_rfl
set_option maxRecDepth 100000 in
theorem lawFnExactNetworkOf_standin:([36,37].all fun u=>!Tryz.prog.wantsStandIn u)=true:=by kernel_rfl
end Go.Proofs.YtechbeegbhlppaaGreatDoor
