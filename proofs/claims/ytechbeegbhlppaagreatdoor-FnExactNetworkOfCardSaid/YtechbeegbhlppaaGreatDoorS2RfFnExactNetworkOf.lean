/- What is asked of the row FnExactNetworkOf of the given program: each by a theorem of its own. -/
import Derived.Test.YtechbeegbhlppaaGreatDoorRows
import Derived.Test.YtechbeegbhlppaaGreatDoorCards
import Derived.Test.YtechbeegbhlppaaGreatDoorTie
import Derived.Stop.Joined
import Derived.SevenTiedAt
import Derived.JoinedOf
namespace Go.Proofs.YtechbeegbhlppaaGreatDoor
set_option linter.unusedVariables false
set_option linter.unusedSimpArgs false
set_option maxRecDepth 100000 in
theorem lawFnExactNetworkOf_e0:(Rows.fnExactNetworkOfRow.wf (OpenSpec.ofChange Rows.fnExactNetworkOfSpec))=true:=by kernel_rfl
set_option maxRecDepth 100000 in
theorem lawFnExactNetworkOf_e1:(laidOutB Tryz.prog)=true:=by kernel_rfl
set_option maxRecDepth 100000 in
theorem lawFnExactNetworkOf_e2:(mapsRowed Tryz.prog)=true:=by kernel_rfl
set_option maxRecDepth 100000 in
theorem lawFnExactNetworkOf_e3:(Tryz.f7.params.all (Tryz.prog.readableRec ·))=true:=by kernel_rfl
set_option maxRecDepth 100000 in
theorem lawFnExactNetworkOf_e4:(namedTie Tryz.prog Rows.fnExactNetworkOfRow.named Rows.fnExactNetworkOfSpec.vars)=true:=by kernel_rfl
set_option maxRecDepth 100000 in
theorem lawFnExactNetworkOf_e5:((Rows.fnExactNetworkOfRow.stops == []))=true:=by kernel_rfl
set_option maxRecDepth 100000 in
theorem lawFnExactNetworkOf_e6:((Tryz.prog.stops == []))=true:=by kernel_rfl
set_option maxRecDepth 100000 in
theorem lawFnExactNetworkOf_e7:((Rows.fnExactNetworkOfRow.knobs == []))=true:=by kernel_rfl
set_option maxRecDepth 100000 in
theorem lawFnExactNetworkOf_e8:((Tryz.prog.stopKnobs == []))=true:=by kernel_rfl
set_option maxRecDepth 100000 in
theorem lawFnExactNetworkOf_e9:((Rows.fnExactNetworkOfRow.inPlace == Tryz.prog.inPlace 7))=true:=by kernel_rfl
set_option maxRecDepth 100000 in
theorem lawFnExactNetworkOf_e10:((Rows.fnExactNetworkOfRow.unfollowed == Tryz.prog.unfollowed 7))=true:=by kernel_rfl
set_option maxRecDepth 100000 in
theorem lawFnExactNetworkOf_e11:((Rows.fnExactNetworkOfRow.recurses == Tryz.prog.recurses 7))=true:=by kernel_rfl
set_option maxRecDepth 100000 in
theorem lawFnExactNetworkOf_e12:((Rows.fnExactNetworkOfRow.named == Tryz.prog.varsNamed 7))=true:=by kernel_rfl
set_option maxRecDepth 100000 in
theorem lawFnExactNetworkOf_e13:((Rows.fnExactNetworkOfRow.maps == (Tryz.f7.params.toList ++ Rows.fnExactNetworkOfSpec.plain.varTypes Tryz.prog).any (Tryz.prog.mapsRec ·)))=true:=by kernel_rfl
set_option maxRecDepth 100000 in
theorem lawFnExactNetworkOf_e14:((Rows.fnExactNetworkOfRow.ifaces == (Tryz.f7.params.toList ++ Rows.fnExactNetworkOfSpec.plain.varTypes Tryz.prog).any (Tryz.prog.ifacesRec ·)))=true:=by kernel_rfl
set_option maxRecDepth 100000 in
theorem lawFnExactNetworkOf_e15:((Rows.fnExactNetworkOfRow.mapsOut == Tryz.prog.mapsAmong Tryz.f7.resultTypes.toList))=true:=by kernel_rfl
set_option maxRecDepth 100000 in
theorem lawFnExactNetworkOf_e16:((Rows.fnExactNetworkOfRow.loops == (Tryz.f7.params.toList ++ Rows.fnExactNetworkOfSpec.plain.varTypes Tryz.prog).any (Tryz.prog.loopsFrom ·)))=true:=by kernel_rfl
set_option maxRecDepth 100000 in
theorem lawFnExactNetworkOf_e17:((Rows.fnExactNetworkOfRow.wideKeys == (Tryz.f7.params.toList ++ Rows.fnExactNetworkOfSpec.plain.varTypes Tryz.prog ++ Tryz.f7.resultTypes.toList).any (Tryz.prog.wideKeysFrom ·)))=true:=by kernel_rfl
set_option maxRecDepth 100000 in
theorem lawFnExactNetworkOf_e18:(Rows.fnExactNetworkOfSpec.vars.all (Tryz.prog.varReadable ·))=true:=by kernel_rfl
end Go.Proofs.YtechbeegbhlppaaGreatDoor
