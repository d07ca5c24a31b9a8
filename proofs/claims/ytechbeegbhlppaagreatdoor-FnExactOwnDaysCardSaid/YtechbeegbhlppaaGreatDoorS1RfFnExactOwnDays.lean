/- What is asked of the row FnExactOwnDays of the given program: each by a theorem of its own. -/
import Derived.Test.YtechbeegbhlppaaGreatDoorRows
import Derived.Test.YtechbeegbhlppaaGreatDoorCards
import Derived.Test.YtechbeegbhlppaaGreatDoorTie
import Derived.Stop.Joined
import Derived.SevenTiedAt
import Derived.JoinedOf
namespace Go.Proofs.YtechbeegbhlppaaGreatDoor
set_option linter.unusedVariables false
set_option linter.unusedSimpArgs false
set_option maxRecDepth 100000 in
theorem lawFnExactOwnDays_e0:(Rows.fnExactOwnDaysRow.wf (OpenSpec.ofChange Rows.fnExactOwnDaysSpec))=true:=by kernel_rfl
set_option maxRecDepth 100000 in
theorem lawFnExactOwnDays_e1:(laidOutB Tryz.prog)=true:=by kernel_rfl
set_option maxRecDepth 100000 in
theorem lawFnExactOwnDays_e2:(mapsRowed Tryz.prog)=true:=by kernel_rfl
set_option maxRecDepth 100000 in
theorem lawFnExactOwnDays_e3:(Tryz.f5.params.all (Tryz.prog.readableRec ·))=true:=by kernel_rfl
set_option maxRecDepth 100000 in
theorem lawFnExactOwnDays_e4:(namedTie Tryz.prog Rows.fnExactOwnDaysRow.named Rows.fnExactOwnDaysSpec.vars)=true:=by kernel_rfl
set_option maxRecDepth 100000 in
theorem lawFnExactOwnDays_e5:((Rows.fnExactOwnDaysRow.stops == []))=true:=by kernel_rfl
set_option maxRecDepth 100000 in
theorem lawFnExactOwnDays_e6:((Tryz.prog.stops == []))=true:=by kernel_rfl
set_option maxRecDepth 100000 in
theorem lawFnExactOwnDays_e7:((Rows.fnExactOwnDaysRow.knobs == []))=true:=by kernel_rfl
set_option maxRecDepth 100000 in
theorem lawFnExactOwnDays_e8:((Tryz.prog.stopKnobs == []))=true:=by kernel_rfl
set_option maxRecDepth 100000 in
theorem lawFnExactOwnDays_e9:((Rows.fnExactOwnDaysRow.inPlace == Tryz.prog.inPlace 5))=true:=by kernel_rfl
set_option maxRecDepth 100000 in
theorem lawFnExactOwnDays_e10:((Rows.fnExactOwnDaysRow.unfollowed == Tryz.prog.unfollowed 5))=true:=by kernel_rfl
set_option maxRecDepth 100000 in
theorem lawFnExactOwnDays_e11:((Rows.fnExactOwnDaysRow.recurses == Tryz.prog.recurses 5))=true:=by kernel_rfl
set_option maxRecDepth 100000 in
theorem lawFnExactOwnDays_e12:((Rows.fnExactOwnDaysRow.named == Tryz.prog.varsNamed 5))=true:=by kernel_rfl
set_option maxRecDepth 100000 in
theorem lawFnExactOwnDays_e13:((Rows.fnExactOwnDaysRow.maps == (Tryz.f5.params.toList ++ Rows.fnExactOwnDaysSpec.plain.varTypes Tryz.prog).any (Tryz.prog.mapsRec ·)))=true:=by kernel_rfl
set_option maxRecDepth 100000 in
theorem lawFnExactOwnDays_e14:((Rows.fnExactOwnDaysRow.ifaces == (Tryz.f5.params.toList ++ Rows.fnExactOwnDaysSpec.plain.varTypes Tryz.prog).any (Tryz.prog.ifacesRec ·)))=true:=by kernel_rfl
set_option maxRecDepth 100000 in
theorem lawFnExactOwnDays_e15:((Rows.fnExactOwnDaysRow.mapsOut == Tryz.prog.mapsAmong Tryz.f5.resultTypes.toList))=true:=by kernel_rfl
set_option maxRecDepth 100000 in
theorem lawFnExactOwnDays_e16:((Rows.fnExactOwnDaysRow.loops == (Tryz.f5.params.toList ++ Rows.fnExactOwnDaysSpec.plain.varTypes Tryz.prog).any (Tryz.prog.loopsFrom ·)))=true:=by kernel_rfl
set_option maxRecDepth 100000 in
theorem lawFnExactOwnDays_e17:((Rows.fnExactOwnDaysRow.wideKeys == (Tryz.f5.params.toList ++ Rows.fnExactOwnDaysSpec.plain.varTypes Tryz.prog ++ Tryz.f5.resultTypes.toList).any (Tryz.prog.wideKeysFrom ·)))=true:=by kernel_rfl
set_option maxRecDepth 100000 in
theorem lawFnExactOwnDays_e18:(Rows.fnExactOwnDaysSpec.vars.all (Tryz.prog.varReadable ·))=true:=by kernel_rfl
end Go.Proofs.YtechbeegbhlppaaGreatDoor
