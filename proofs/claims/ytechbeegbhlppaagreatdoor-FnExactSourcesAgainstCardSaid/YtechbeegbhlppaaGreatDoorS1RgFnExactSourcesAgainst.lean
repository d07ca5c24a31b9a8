/- What is asked of the row FnExactSourcesAgainst of the given program: each by a theorem of its own. -/
import Derived.Test.YtechbeegbhlppaaGreatDoorRows
import Derived.Test.YtechbeegbhlppaaGreatDoorCards
import Derived.Test.YtechbeegbhlppaaGreatDoorTie
import Derived.Stop.Joined
import Derived.SevenTiedAt
import Derived.JoinedOf
namespace Go.Proofs.YtechbeegbhlppaaGreatDoor
set_option linter.unusedVariables false
set_option linter.unusedSimpArgs false
set_option maxRecDepth 100000 in
theorem lawFnExactSourcesAgainst_e19:(Tryz.f4.resultTypes.all (fun t=>Tryz.prog.readableRec t && decide (t < Tryz.prog.types.size)))=true:=by kernel_rfl
set_option maxRecDepth 100000 in
theorem lawFnExactSourcesAgainst_e20:((Rows.fnExactSourcesAgainstRow.ifacesOut == Tryz.f4.resultTypes.toList.any (Tryz.prog.ifacesRec ·)))=true:=by kernel_rfl
set_option maxRecDepth 100000 in
theorem lawFnExactSourcesAgainst_e21:((Rows.fnExactSourcesAgainstRow.loopsOut == Tryz.f4.resultTypes.toList.any (Tryz.prog.loopsFrom ·)))=true:=by kernel_rfl
set_option maxRecDepth 100000 in
theorem lawFnExactSourcesAgainst_e22:((Rows.fnExactSourcesAgainstRow.plainKeys == Tryz.prog.plainKeys))=true:=by kernel_rfl
set_option maxRecDepth 100000 in
theorem lawFnExactSourcesAgainst_e23:(Rows.fnExactSourcesAgainstRow.shortTexts.isNone)=true:=by kernel_rfl
set_option maxRecDepth 100000 in
theorem lawFnExactSourcesAgainst_e24:(Tryz.prog.stopsHeard)=true:=by kernel_rfl
set_option maxRecDepth 100000 in
theorem lawFnExactSourcesAgainst_e25:(Tryz.prog.mayEnter)=true:=by kernel_rfl
set_option maxRecDepth 100000 in
theorem lawFnExactSourcesAgainst_e26:((Rows.fnExactSourcesAgainstRow.lifted == Tryz.prog.liftsFinal))=true:=by kernel_rfl
set_option maxRecDepth 100000 in
theorem lawFnExactSourcesAgainst_e27:((Tryz.prog.make == some Rows.fnExactSourcesAgainstRow.make))=true:=by kernel_rfl
set_option maxRecDepth 100000 in
theorem lawFnExactSourcesAgainst_e28:((Rows.fnExactSourcesAgainstRow.kinds == (if Rows.fnExactSourcesAgainstRow.domain.isEmpty then [] else Tryz.f4.params.toList.map fun t=>match Tryz.prog.underlying t with | some (.int k)=>some k | _=>none)))=true:=by kernel_rfl
set_option maxRecDepth 100000 in
theorem lawFnExactSourcesAgainst_e29:((Rows.fnExactSourcesAgainstRow.pinned == Rows.fnExactSourcesAgainstRow.pinnedBy))=true:=by kernel_rfl
set_option maxRecDepth 100000 in
theorem lawFnExactSourcesAgainst_e30:((Rows.fnExactSourcesAgainstRow.veiled == (Tryz.f4.params.toList ++ Rows.fnExactSourcesAgainstSpec.plain.varTypes Tryz.prog ++ Tryz.f4.resultTypes.toList).any (Tryz.prog.veiledRec ·)))=true:=by kernel_rfl
set_option maxRecDepth 100000 in
theorem lawFnExactSourcesAgainst_e31:(Rows.fnExactSourcesAgainstRow.veiledFits Tryz.prog Tryz.f4.params.toList (Tryz.f4.params.toList ++ Rows.fnExactSourcesAgainstSpec.plain.varTypes Tryz.prog ++ Tryz.f4.resultTypes.toList))=true:=by kernel_rfl
set_option maxRecDepth 100000 in
theorem lawFnExactSourcesAgainst_name : Tryz.prog.funcNamed "loop.example/g01034/laws.FnExactSourcesAgainst" = some 4 := by kernel_rfl
set_option maxRecDepth 100000 in
theorem lawFnExactSourcesAgainst_wft:Rows.fnExactSourcesAgainstRow.wfByText (OpenSpec.ofChange Rows.fnExactSourcesAgainstSpec)=true:=by kernel_rfl
set_option maxRecDepth 100000 in
theorem lawFnExactSourcesAgainst_goes:false=Rows.fnExactSourcesAgainstRow.goesBy Tryz.prog:=by kernel_rfl
set_option maxRecDepth 100000 in
theorem lawFnExactSourcesAgainst_main:Tryz.prog.mainIs=some (Rows.fnExactSourcesAgainstCard.stood.harness.1,Rows.fnExactSourcesAgainstCard.stood.harness.2.toList):=by kernel_rfl
set_option maxRecDepth 100000 in
theorem lawFnExactSourcesAgainst_looks:Rows.fnExactSourcesAgainstCard.stood.looks=Tryz.prog.looks []:=by kernel_rfl
set_option maxRecDepth 100000 in
theorem lawFnExactSourcesAgainst_standin:([36,37,2,2].all fun u=>!Tryz.prog.wantsStandIn u)=true:=by kernel_rfl
end Go.Proofs.YtechbeegbhlppaaGreatDoor
