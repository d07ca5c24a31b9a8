/- What is asked of the row FnExactSourceDays of the given program: each by a theorem of its own. -/
import Derived.Test.YtechbeegbhlppaaGreatDoorRows
import Derived.Test.YtechbeegbhlppaaGreatDoorCards
import Derived.Test.YtechbeegbhlppaaGreatDoorTie
import Derived.Stop.Joined
import Derived.SevenTiedAt
import Derived.JoinedOf
namespace Go.Proofs.YtechbeegbhlppaaGreatDoor
set_option linter.unusedVariables false
set_option linter.unusedSimpArgs false
set_option maxRecDepth 100000 in
theorem lawFnExactSourceDays_e0:(Rows.fnExactSourceDaysRow.wf (OpenSpec.ofChange Rows.fnExactSourceDaysSpec))=true:=by kernel_rfl
set_option maxRecDepth 100000 in
theorem lawFnExactSourceDays_e1:(laidOutB Tryz.prog)=true:=by kernel_rfl
set_option maxRecDepth 100000 in
theorem lawFnExactSourceDays_e2:(mapsRowed Tryz.prog)=true:=by kernel_rfl
set_option maxRecDepth 100000 in
theorem lawFnExactSourceDays_e3:(Tryz.f3.params.all (Tryz.prog.readableRec ·))=true:=by kernel_rfl
set_option maxRecDepth 100000 in
theorem lawFnExactSourceDays_e4:(namedTie Tryz.prog Rows.fnExactSourceDaysRow.named Rows.fnExactSourceDaysSpec.vars)=true:=by kernel_rfl
set_option maxRecDepth 100000 in
theorem lawFnExactSourceDays_e5:((Rows.fnExactSourceDaysRow.stops == []))=true:=by kernel_rfl
set_option maxRecDepth 100000 in
theorem lawFnExactSourceDays_e6:((Tryz.prog.stops == []))=true:=by kernel_rfl
set_option maxRecDepth 100000 in
theorem lawFnExactSourceDays_e7:((Rows.fnExactSourceDaysRow.knobs == []))=true:=by kernel_rfl
set_option maxRecDepth 100000 in
theorem lawFnExactSourceDays_e8:((Tryz.prog.stopKnobs == []))=true:=by kernel_rfl
set_option maxRecDepth 100000 in
theorem lawFnExactSourceDays_e9:((Rows.fnExactSourceDaysRow.inPlace == Tryz.prog.inPlace 3))=true:=by kernel_rfl
set_option maxRecDepth 100000 in
theorem lawFnExactSourceDays_e10:((Rows.fnExactSourceDaysRow.unfollowed == Tryz.prog.unfollowed 3))=true:=by kernel_rfl
set_option maxRecDepth 100000 in
theorem lawFnExactSourceDays_e11:((Rows.fnExactSourceDaysRow.recurses == Tryz.prog.recurses 3))=true:=by kernel_rfl
set_option maxRecDepth 100000 in
theorem lawFnExactSourceDays_e12:((Rows.fnExactSourceDaysRow.named == Tryz.prog.varsNamed 3))=true:=by kernel_rfl
set_option maxRecDepth 100000 in
theorem lawFnExactSourceDays_e13:((Rows.fnExactSourceDaysRow.maps == (Tryz.f3.params.toList ++ Rows.fnExactSourceDaysSpec.plain.varTypes Tryz.prog).any (Tryz.prog.mapsRec ·)))=true:=by kernel_rfl
set_option maxRecDepth 100000 in
theorem lawFnExactSourceDays_e14:((Rows.fnExactSourceDaysRow.ifaces == (Tryz.f3.params.toList ++ Rows.fnExactSourceDaysSpec.plain.varTypes Tryz.prog).any (Tryz.prog.ifacesRec ·)))=true:=by kernel_rfl
set_option maxRecDepth 100000 in
theorem lawFnExactSourceDays_e15:((Rows.fnExactSourceDaysRow.mapsOut == Tryz.prog.mapsAmong Tryz.f3.resultTypes.toList))=true:=by kernel_rfl
set_option maxRecDepth 100000 in
theorem lawFnExactSourceDays_e16:((Rows.fnExactSourceDaysRow.loops == (Tryz.f3.params.toList ++ Rows.fnExactSourceDaysSpec.plain.varTypes Tryz.prog).any (Tryz.prog.loopsFrom ·)))=true:=by kernel_rfl
set_option maxRecDepth 100000 in
theorem lawFnExactSourceDays_e17:((Rows.fnExactSourceDaysRow.wideKeys == (Tryz.f3.params.toList ++ Rows.fnExactSourceDaysSpec.plain.varTypes Tryz.prog ++ Tryz.f3.resultTypes.toList).any (Tryz.prog.wideKeysFrom ·)))=true:=by kernel_rfl
set_option maxRecDepth 100000 in
theorem lawFnExactSourceDays_e18:(Rows.fnExactSourceDaysSpec.vars.all (Tryz.prog.varReadable ·))=true:=by kernel_rfl
end Go.Proofs.YtechbeegbhlppaaGreatDoor
