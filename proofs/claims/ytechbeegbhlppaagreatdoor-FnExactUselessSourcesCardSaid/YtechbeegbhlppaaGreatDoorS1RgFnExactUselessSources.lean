/- What is asked of the row FnExactUselessSources of the given program: each by a theorem of its own. -/
import Derived.Test.YtechbeegbhlppaaGreatDoorRows
import Derived.Test.YtechbeegbhlppaaGreatDoorCards
import Derived.Test.YtechbeegbhlppaaGreatDoorTie
import Derived.Stop.Joined
import Derived.SevenTiedAt
import Derived.JoinedOf
namespace Go.Proofs.YtechbeegbhlppaaGreatDoor
set_option linter.unusedVariables false
set_option linter.unusedSimpArgs false
set_option maxRecDepth 100000 in
theorem lawFnExactUselessSources_e19:(Tryz.f6.resultTypes.all (fun t=>Tryz.prog.readableRec t && decide (t < Tryz.prog.types.size)))=true:=by kernel_rfl
set_option maxRecDepth 100000 in
theorem lawFnExactUselessSources_e20:((Rows.fnExactUselessSourcesRow.ifacesOut == Tryz.f6.resultTypes.toList.any (Tryz.prog.ifacesRec ·)))=true:=by kernel_rfl
set_option maxRecDepth 100000 in
theorem lawFnExactUselessSources_e21:((Rows.fnExactUselessSourcesRow.loopsOut == Tryz.f6.resultTypes.toList.any (Tryz.prog.loopsFrom ·)))=true:=by kernel_rfl
set_option maxRecDepth 100000 in
theorem lawFnExactUselessSources_e22:((Rows.fnExactUselessSourcesRow.plainKeys == Tryz.prog.plainKeys))=true:=by kernel_rfl
set_option maxRecDepth 100000 in
theorem lawFnExactUselessSources_e23:(Rows.fnExactUselessSourcesRow.shortTexts.isNone)=true:=by kernel_rfl
set_option maxRecDepth 100000 in
theorem lawFnExactUselessSources_e24:(Tryz.prog.stopsHeard)=true:=by kernel_rfl
set_option maxRecDepth 100000 in
theorem lawFnExactUselessSources_e25:(Tryz.prog.mayEnter)=true:=by kernel_rfl
set_option maxRecDepth 100000 in
theorem lawFnExactUselessSources_e26:((Rows.fnExactUselessSourcesRow.lifted == Tryz.prog.liftsFinal))=true:=by kernel_rfl
set_option maxRecDepth 100000 in
theorem lawFnExactUselessSources_e27:((Tryz.prog.make == some Rows.fnExactUselessSourcesRow.make))=true:=by kernel_rfl
set_option maxRecDepth 100000 in
theorem lawFnExactUselessSources_e28:((Rows.fnExactUselessSourcesRow.kinds == (if Rows.fnExactUselessSourcesRow.domain.isEmpty then [] else Tryz.f6.params.toList.map fun t=>match Tryz.prog.underlying t with | some (.int k)=>some k | _=>none)))=true:=by kernel_rfl
set_option maxRecDepth 100000 in
theorem lawFnExactUselessSources_e29:((Rows.fnExactUselessSourcesRow.pinned == Rows.fnExactUselessSourcesRow.pinnedBy))=true:=by kernel_rfl
set_option maxRecDepth 100000 in
theorem lawFnExactUselessSources_e30:((Rows.fnExactUselessSourcesRow.veiled == (Tryz.f6.params.toList ++ Rows.fnExactUselessSourcesSpec.plain.varTypes Tryz.prog ++ Tryz.f6.resultTypes.toList).any (Tryz.prog.veiledRec ·)))=true:=by kernel_rfl
set_option maxRecDepth 100000 in
theorem lawFnExactUselessSources_e31:(Rows.fnExactUselessSourcesRow.veiledFits Tryz.prog Tryz.f6.params.toList (Tryz.f6.params.toList ++ Rows.fnExactUselessSourcesSpec.plain.varTypes Tryz.prog ++ Tryz.f6.resultTypes.toList))=true:=by kernel_rfl
set_option maxRecDepth 100000 in
theorem lawFnExactUselessSources_name : Tryz.prog.funcNamed "loop.example/g01034/laws.FnExactUselessSources" = some 6 := by kernel_rfl
set_option maxRecDepth 100000 in
theorem lawFnExactUselessSources_wft:Rows.fnExactUselessSourcesRow.wfByText (OpenSpec.ofChange Rows.fnExactUselessSourcesSpec)=true:=by kernel_rfl
set_option maxRecDepth 100000 in
theorem lawFnExactUselessSources_goes:false=Rows.fnExactUselessSourcesRow.goesBy Tryz.prog:=by kernel_rfl
set_option maxRecDepth 100000 in
theorem lawFnExactUselessSources_main:Tryz.prog.mainIs=some (Rows.fnExactUselessSourcesCard.stood.harness.1,Rows.fnExactUselessSourcesCard.stood.harness.2.toList):=by kernel_rfl
set_option maxRecDepth 100000 in
theorem lawFnExactUselessSources_looks:Rows.fnExactUselessSourcesCard.stood.looks=Tryz.prog.looks []:=by kernel_rfl
set_option maxRecDepth 100000 in
theorem lawFnExactUselessSources_standin:([36,37,2].all fun u=>!Tryz.prog.wantsStandIn u)=true:=by kernel_rfl
end Go.Proofs.YtechbeegbhlppaaGreatDoor
