/- What is asked of the row FnExactSourcesAgainst of the given program: each by a theorem of its own. -/
import Derived.Test.YtechbeegbhlppaaGreatDoorRows
import Derived.Test.YtechbeegbhlppaaGreatDoorCards
import Derived.Test.YtechbeegbhlppaaGreatDoorTie
import Derived.Stop.Joined
import Derived.SevenTiedAt
import Derived.JoinedOf
namespace Go.Proofs.YtechbeegbhlppaaGreatDoor
set_option linter.unusedVariables false
set_option linter.unusedSimpArgs false
set_option maxRecDepth 100000 in
theorem lawFnExactSourcesAgainst_e0:(Rows.fnExactSourcesAgainstRow.wf (OpenSpec.ofChange Rows.fnExactSourcesAgainstSpec))=true:=by kernel_rfl
set_option maxRecDepth 100000 in
theorem lawFnExactSourcesAgainst_e1:(laidOutB Tryz.prog)=true:=by kernel_rfl
set_option maxRecDepth 100000 in
theorem lawFnExactSourcesAgainst_e2:(mapsRowed Tryz.prog)=true:=by kernel_rfl
set_option maxRecDepth 100000 in
theorem lawFnExactSourcesAgainst_e3:(Tryz.f4.params.all (Tryz.prog.readableRec ·))=true:=by kernel_rfl
set_option maxRecDepth 100000 in
theorem lawFnExactSourcesAgainst_e4:(namedTie Tryz.prog Rows.fnExactSourcesAgainstRow.named Rows.fnExactSourcesAgainstSpec.vars)=true:=by kernel_rfl
set_option maxRecDepth 100000 in
theorem lawFnExactSourcesAgainst_e5:((Rows.fnExactSourcesAgainstRow.stops == []))=true:=by kernel_rfl
set_option maxRecDepth 100000 in
theorem lawFnExactSourcesAgainst_e6:((Tryz.prog.stops == []))=true:=by kernel_rfl
set_option maxRecDepth 100000 in
theorem lawFnExactSourcesAgainst_e7:((Rows.fnExactSourcesAgainstRow.knobs == []))=true:=by kernel_rfl
set_option maxRecDepth 100000 in
theorem lawFnExactSourcesAgainst_e8:((Tryz.prog.stopKnobs == []))=true:=by kernel_rfl
set_option maxRecDepth 100000 in
theorem lawFnExactSourcesAgainst_e9:((Rows.fnExactSourcesAgainstRow.inPlace == Tryz.prog.inPlace 4))=true:=by kernel_rfl
set_option maxRecDepth 100000 in
theorem lawFnExactSourcesAgainst_e10:((Rows.fnExactSourcesAgainstRow.unfollowed == Tryz.prog.unfollowed 4))=true:=by kernel_rfl
set_option maxRecDepth 100000 in
theorem lawFnExactSourcesAgainst_e11:((Rows.fnExactSourcesAgainstRow.recurses == Tryz.prog.recurses 4))=true:=by kernel_rfl
set_option maxRecDepth 100000 in
theorem lawFnExactSourcesAgainst_e12:((Rows.fnExactSourcesAgainstRow.named == Tryz.prog.varsNamed 4))=true:=by kernel_rfl
set_option maxRecDepth 100000 in
theorem lawFnExactSourcesAgainst_e13:((Rows.fnExactSourcesAgainstRow.maps == (Tryz.f4.params.toList ++ Rows.fnExactSourcesAgainstSpec.plain.varTypes Tryz.prog).any (Tryz.prog.mapsRec ·)))=true:=by kernel_rfl
set_option maxRecDepth 100000 in
theorem lawFnExactSourcesAgainst_e14:((Rows.fnExactSourcesAgainstRow.ifaces == (Tryz.f4.params.toList ++ Rows.fnExactSourcesAgainstSpec.plain.varTypes Tryz.prog).any (Tryz.prog.ifacesRec ·)))=true:=by kernel_rfl
set_option maxRecDepth 100000 in
theorem lawFnExactSourcesAgainst_e15:((Rows.fnExactSourcesAgainstRow.mapsOut == Tryz.prog.mapsAmong Tryz.f4.resultTypes.toList))=true:=by kernel_rfl
set_option maxRecDepth 100000 in
theorem lawFnExactSourcesAgainst_e16:((Rows.fnExactSourcesAgainstRow.loops == (Tryz.f4.params.toList ++ Rows.fnExactSourcesAgainstSpec.plain.varTypes Tryz.prog).any (Tryz.prog.loopsFrom ·)))=true:=by kernel_rfl
set_option maxRecDepth 100000 in
theorem lawFnExactSourcesAgainst_e17:((Rows.fnExactSourcesAgainstRow.wideKeys == (Tryz.f4.params.toList ++ Rows.fnExactSourcesAgainstSpec.plain.varTypes Tryz.prog ++ Tryz.f4.resultTypes.toList).any (Tryz.prog.wideKeysFrom ·)))=true:=by kernel_rfl
set_option maxRecDepth 100000 in
theorem lawFnExactSourcesAgainst_e18:(Rows.fnExactSourcesAgainstSpec.vars.all (Tryz.prog.varReadable ·))=true:=by kernel_rfl
end Go.Proofs.YtechbeegbhlppaaGreatDoor
