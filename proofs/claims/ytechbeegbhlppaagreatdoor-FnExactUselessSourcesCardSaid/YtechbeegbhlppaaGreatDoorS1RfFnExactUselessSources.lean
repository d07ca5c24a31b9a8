/- What is asked of the row FnExactUselessSources of the given program: each by a theorem of its own. -/
import Derived.Test.YtechbeegbhlppaaGreatDoorRows
import Derived.Test.YtechbeegbhlppaaGreatDoorCards
import Derived.Test.YtechbeegbhlppaaGreatDoorTie
import Derived.Stop.Joined
import Derived.SevenTiedAt
import Derived.JoinedOf
namespace Go.Proofs.YtechbeegbhlppaaGreatDoor
set_option linter.unusedVariables false
set_option linter.unusedSimpArgs false
set_option maxRecDepth 100000 in
theorem lawFnExactUselessSources_e0:(Rows.fnExactUselessSourcesRow.wf (OpenSpec.ofChange Rows.fnExactUselessSourcesSpec))=true:=by kernel_rfl
set_option maxRecDepth 100000 in
theorem lawFnExactUselessSources_e1:(laidOutB Tryz.prog)=true:=by kernel_rfl
set_option maxRecDepth 100000 in
theorem lawFnExactUselessSources_e2:(mapsRowed Tryz.prog)=true:=by kernel_rfl
set_option maxRecDepth 100000 in
theorem lawFnExactUselessSources_e3:(Tryz.f6.params.all (Tryz.prog.readableRec ·))=true:=by kernel_rfl
set_option maxRecDepth 100000 in
theorem lawFnExactUselessSources_e4:(namedTie Tryz.prog Rows.fnExactUselessSourcesRow.named Rows.fnExactUselessSourcesSpec.vars)=true:=by kernel_rfl
set_option maxRecDepth 100000 in
theorem lawFnExactUselessSources_e5:((Rows.fnExactUselessSourcesRow.stops == []))=true:=by kernel_rfl
set_option maxRecDepth 100000 in
theorem lawFnExactUselessSources_e6:((Tryz.prog.stops == []))=true:=by kernel_rfl
set_option maxRecDepth 100000 in
theorem lawFnExactUselessSources_e7:((Rows.fnExactUselessSourcesRow.knobs == []))=true:=by kernel_rfl
set_option maxRecDepth 100000 in
theorem lawFnExactUselessSources_e8:((Tryz.prog.stopKnobs == []))=true:=by kernel_rfl
set_option maxRecDepth 100000 in
theorem lawFnExactUselessSources_e9:((Rows.fnExactUselessSourcesRow.inPlace == Tryz.prog.inPlace 6))=true:=by kernel_rfl
set_option maxRecDepth 100000 in
theorem lawFnExactUselessSources_e10:((Rows.fnExactUselessSourcesRow.unfollowed == Tryz.prog.unfollowed 6))=true:=by kernel_rfl
set_option maxRecDepth 100000 in
theorem lawFnExactUselessSources_e11:((Rows.fnExactUselessSourcesRow.recurses == Tryz.prog.recurses 6))=true:=by kernel_rfl
set_option maxRecDepth 100000 in
theorem lawFnExactUselessSources_e12:((Rows.fnExactUselessSourcesRow.named == Tryz.prog.varsNamed 6))=true:=by kernel_rfl
set_option maxRecDepth 100000 in
theorem lawFnExactUselessSources_e13:((Rows.fnExactUselessSourcesRow.maps == (Tryz.f6.params.toList ++ Rows.fnExactUselessSourcesSpec.plain.varTypes Tryz.prog).any (Tryz.prog.mapsRec ·)))=true:=by kernel_rfl
set_option maxRecDepth 100000 in
theorem lawFnExactUselessSources_e14:((Rows.fnExactUselessSourcesRow.ifaces == (Tryz.f6.params.toList ++ Rows.fnExactUselessSourcesSpec.plain.varTypes Tryz.prog).any (Tryz.prog.ifacesRec ·)))=true:=by kernel_rfl
set_option maxRecDepth 100000 in
theorem lawFnExactUselessSources_e15:((Rows.fnExactUselessSourcesRow.mapsOut == Tryz.prog.mapsAmong Tryz.f6.resultTypes.toList))=true:=by kernel_rfl
set_option maxRecDepth 100000 in
theorem lawFnExactUselessSources_e16:((Rows.fnExactUselessSourcesRow.loops == (Tryz.f6.params.toList ++ Rows.fnExactUselessSourcesSpec.plain.varTypes Tryz.prog).any (Tryz.prog.loopsFrom ·)))=true:=by kernel_rfl
set_option maxRecDepth 100000 in
theorem lawFnExactUselessSources_e17:((Rows.fnExactUselessSourcesRow.wideKeys == (Tryz.f6.params.toList ++ Rows.fnExactUselessSourcesSpec.plain.varTypes Tryz.prog ++ Tryz.f6.resultTypes.toList).any (Tryz.prog.wideKeysFrom ·)))=true:=by kernel_rfl
set_option maxRecDepth 100000 in
theorem lawFnExactUselessSources_e18:(Rows.fnExactUselessSourcesSpec.vars.all (Tryz.prog.varReadable ·))=true:=by kernel_rfl
end Go.Proofs.YtechbeegbhlppaaGreatDoor
