/- What is asked of the row FnExactCitedBy of the given program: each by a theorem of its own. -/
import Derived.Test.YtmmokjnljaifcaaGreatDoorRows
import Derived.Test.YtmmokjnljaifcaaGreatDoorCards
import Derived.Test.YtmmokjnljaifcaaGreatDoorTie
import Derived.Stop.Joined
import Derived.SevenTiedAt
import Derived.JoinedOf
namespace Go.Proofs.YtmmokjnljaifcaaGreatDoor
set_option linter.unusedVariables false
set_option linter.unusedSimpArgs false
set_option maxRecDepth 100000 in
theorem lawFnExactCitedBy_e0 : (Rows.fnExactCitedByRow.wf (OpenSpec.ofChange Rows.fnExactCitedBySpec)) = true := by kernel_rfl
set_option maxRecDepth 100000 in
theorem lawFnExactCitedBy_e1 : (laidOutB Tryz.prog) = true := by kernel_rfl
set_option maxRecDepth 100000 in
theorem lawFnExactCitedBy_e2 : (mapsRowed Tryz.prog) = true := by kernel_rfl
set_option maxRecDepth 100000 in
theorem lawFnExactCitedBy_e3 : (Tryz.f5.params.all (Tryz.prog.readableRec ·)) = true := by kernel_rfl
set_option maxRecDepth 100000 in
theorem lawFnExactCitedBy_e4 : (namedTie Tryz.prog Rows.fnExactCitedByRow.named Rows.fnExactCitedBySpec.vars) = true := by kernel_rfl
set_option maxRecDepth 100000 in
theorem lawFnExactCitedBy_e5 : ((Rows.fnExactCitedByRow.stops == [])) = true := by kernel_rfl
set_option maxRecDepth 100000 in
theorem lawFnExactCitedBy_e6 : ((Tryz.prog.stops == [])) = true := by kernel_rfl
set_option maxRecDepth 100000 in
theorem lawFnExactCitedBy_e7 : ((Rows.fnExactCitedByRow.knobs == [])) = true := by kernel_rfl
set_option maxRecDepth 100000 in
theorem lawFnExactCitedBy_e8 : ((Tryz.prog.stopKnobs == [])) = true := by kernel_rfl
set_option maxRecDepth 100000 in
theorem lawFnExactCitedBy_e9 : ((Rows.fnExactCitedByRow.inPlace == Tryz.prog.inPlace 5)) = true := by kernel_rfl
set_option maxRecDepth 100000 in
theorem lawFnExactCitedBy_e10 : ((Rows.fnExactCitedByRow.unfollowed == Tryz.prog.unfollowed 5)) = true := by kernel_rfl
set_option maxRecDepth 100000 in
theorem lawFnExactCitedBy_e11 : ((Rows.fnExactCitedByRow.recurses == Tryz.prog.recurses 5)) = true := by kernel_rfl
set_option maxRecDepth 100000 in
theorem lawFnExactCitedBy_e12 : ((Rows.fnExactCitedByRow.named == Tryz.prog.varsNamed 5)) = true := by kernel_rfl
set_option maxRecDepth 100000 in
theorem lawFnExactCitedBy_e13 : ((Rows.fnExactCitedByRow.maps == (Tryz.f5.params.toList ++ Rows.fnExactCitedBySpec.plain.varTypes Tryz.prog).any (Tryz.prog.mapsRec ·))) = true := by kernel_rfl
set_option maxRecDepth 100000 in
theorem lawFnExactCitedBy_e14 : ((Rows.fnExactCitedByRow.ifaces == (Tryz.f5.params.toList ++ Rows.fnExactCitedBySpec.plain.varTypes Tryz.prog).any (Tryz.prog.ifacesRec ·))) = true := by kernel_rfl
set_option maxRecDepth 100000 in
theorem lawFnExactCitedBy_e15 : ((Rows.fnExactCitedByRow.mapsOut == Tryz.prog.mapsAmong Tryz.f5.resultTypes.toList)) = true := by kernel_rfl
set_option maxRecDepth 100000 in
theorem lawFnExactCitedBy_e16 : ((Rows.fnExactCitedByRow.loops == (Tryz.f5.params.toList ++ Rows.fnExactCitedBySpec.plain.varTypes Tryz.prog).any (Tryz.prog.loopsFrom ·))) = true := by kernel_rfl
set_option maxRecDepth 100000 in
theorem lawFnExactCitedBy_e17 : ((Rows.fnExactCitedByRow.wideKeys == (Tryz.f5.params.toList ++ Rows.fnExactCitedBySpec.plain.varTypes Tryz.prog ++ Tryz.f5.resultTypes.toList).any (Tryz.prog.wideKeysFrom ·))) = true := by kernel_rfl
set_option maxRecDepth 100000 in
theorem lawFnExactCitedBy_e18 : (Rows.fnExactCitedBySpec.vars.all (Tryz.prog.varReadable ·)) = true := by kernel_rfl
end Go.Proofs.YtmmokjnljaifcaaGreatDoor
