/- What is asked of the row FnExactCitingOrder of the given program: each by a theorem of its own. -/
import Derived.Test.YtmmokjnljaifcaaGreatDoorRows
import Derived.Test.YtmmokjnljaifcaaGreatDoorCards
import Derived.Test.YtmmokjnljaifcaaGreatDoorTie
import Derived.Stop.Joined
import Derived.SevenTiedAt
import Derived.JoinedOf
namespace Go.Proofs.YtmmokjnljaifcaaGreatDoor
set_option linter.unusedVariables false
set_option linter.unusedSimpArgs false
set_option maxRecDepth 100000 in
theorem lawFnExactCitingOrder_e0 : (Rows.fnExactCitingOrderRow.wf (OpenSpec.ofChange Rows.fnExactCitingOrderSpec)) = true := by kernel_rfl
set_option maxRecDepth 100000 in
theorem lawFnExactCitingOrder_e1 : (laidOutB Tryz.prog) = true := by kernel_rfl
set_option maxRecDepth 100000 in
theorem lawFnExactCitingOrder_e2 : (mapsRowed Tryz.prog) = true := by kernel_rfl
set_option maxRecDepth 100000 in
theorem lawFnExactCitingOrder_e3 : (Tryz.f6.params.all (Tryz.prog.readableRec ·)) = true := by kernel_rfl
set_option maxRecDepth 100000 in
theorem lawFnExactCitingOrder_e4 : (namedTie Tryz.prog Rows.fnExactCitingOrderRow.named Rows.fnExactCitingOrderSpec.vars) = true := by kernel_rfl
set_option maxRecDepth 100000 in
theorem lawFnExactCitingOrder_e5 : ((Rows.fnExactCitingOrderRow.stops == [])) = true := by kernel_rfl
set_option maxRecDepth 100000 in
theorem lawFnExactCitingOrder_e6 : ((Tryz.prog.stops == [])) = true := by kernel_rfl
set_option maxRecDepth 100000 in
theorem lawFnExactCitingOrder_e7 : ((Rows.fnExactCitingOrderRow.knobs == [])) = true := by kernel_rfl
set_option maxRecDepth 100000 in
theorem lawFnExactCitingOrder_e8 : ((Tryz.prog.stopKnobs == [])) = true := by kernel_rfl
set_option maxRecDepth 100000 in
theorem lawFnExactCitingOrder_e9 : ((Rows.fnExactCitingOrderRow.inPlace == Tryz.prog.inPlace 6)) = true := by kernel_rfl
set_option maxRecDepth 100000 in
theorem lawFnExactCitingOrder_e10 : ((Rows.fnExactCitingOrderRow.unfollowed == Tryz.prog.unfollowed 6)) = true := by kernel_rfl
set_option maxRecDepth 100000 in
theorem lawFnExactCitingOrder_e11 : ((Rows.fnExactCitingOrderRow.recurses == Tryz.prog.recurses 6)) = true := by kernel_rfl
set_option maxRecDepth 100000 in
theorem lawFnExactCitingOrder_e12 : ((Rows.fnExactCitingOrderRow.named == Tryz.prog.varsNamed 6)) = true := by kernel_rfl
set_option maxRecDepth 100000 in
theorem lawFnExactCitingOrder_e13 : ((Rows.fnExactCitingOrderRow.maps == (Tryz.f6.params.toList ++ Rows.fnExactCitingOrderSpec.plain.varTypes Tryz.prog).any (Tryz.prog.mapsRec ·))) = true := by kernel_rfl
set_option maxRecDepth 100000 in
theorem lawFnExactCitingOrder_e14 : ((Rows.fnExactCitingOrderRow.ifaces == (Tryz.f6.params.toList ++ Rows.fnExactCitingOrderSpec.plain.varTypes Tryz.prog).any (Tryz.prog.ifacesRec ·))) = true := by kernel_rfl
set_option maxRecDepth 100000 in
theorem lawFnExactCitingOrder_e15 : ((Rows.fnExactCitingOrderRow.mapsOut == Tryz.prog.mapsAmong Tryz.f6.resultTypes.toList)) = true := by kernel_rfl
set_option maxRecDepth 100000 in
theorem lawFnExactCitingOrder_e16 : ((Rows.fnExactCitingOrderRow.loops == (Tryz.f6.params.toList ++ Rows.fnExactCitingOrderSpec.plain.varTypes Tryz.prog).any (Tryz.prog.loopsFrom ·))) = true := by kernel_rfl
set_option maxRecDepth 100000 in
theorem lawFnExactCitingOrder_e17 : ((Rows.fnExactCitingOrderRow.wideKeys == (Tryz.f6.params.toList ++ Rows.fnExactCitingOrderSpec.plain.varTypes Tryz.prog ++ Tryz.f6.resultTypes.toList).any (Tryz.prog.wideKeysFrom ·))) = true := by kernel_rfl
set_option maxRecDepth 100000 in
theorem lawFnExactCitingOrder_e18 : (Rows.fnExactCitingOrderSpec.vars.all (Tryz.prog.varReadable ·)) = true := by kernel_rfl
end Go.Proofs.YtmmokjnljaifcaaGreatDoor
