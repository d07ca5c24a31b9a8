/- What is asked of the row FnExactAreDeeds of the given program: each by a theorem of its own. -/
import Derived.Test.YtmmokjnljaifcaaGreatDoorRows
import Derived.Test.YtmmokjnljaifcaaGreatDoorCards
import Derived.Test.YtmmokjnljaifcaaGreatDoorTie
import Derived.Stop.Joined
import Derived.SevenTiedAt
import Derived.JoinedOf
namespace Go.Proofs.YtmmokjnljaifcaaGreatDoor
set_option linter.unusedVariables false
set_option linter.unusedSimpArgs false
set_option maxRecDepth 100000 in
theorem lawFnExactAreDeeds_e0 : (Rows.fnExactAreDeedsRow.wf (OpenSpec.ofChange Rows.fnExactAreDeedsSpec)) = true := by kernel_rfl
set_option maxRecDepth 100000 in
theorem lawFnExactAreDeeds_e1 : (laidOutB Tryz.prog) = true := by kernel_rfl
set_option maxRecDepth 100000 in
theorem lawFnExactAreDeeds_e2 : (mapsRowed Tryz.prog) = true := by kernel_rfl
set_option maxRecDepth 100000 in
theorem lawFnExactAreDeeds_e3 : (Tryz.f4.params.all (Tryz.prog.readableRec ·)) = true := by kernel_rfl
set_option maxRecDepth 100000 in
theorem lawFnExactAreDeeds_e4 : (namedTie Tryz.prog Rows.fnExactAreDeedsRow.named Rows.fnExactAreDeedsSpec.vars) = true := by kernel_rfl
set_option maxRecDepth 100000 in
theorem lawFnExactAreDeeds_e5 : ((Rows.fnExactAreDeedsRow.stops == [])) = true := by kernel_rfl
set_option maxRecDepth 100000 in
theorem lawFnExactAreDeeds_e6 : ((Tryz.prog.stops == [])) = true := by kernel_rfl
set_option maxRecDepth 100000 in
theorem lawFnExactAreDeeds_e7 : ((Rows.fnExactAreDeedsRow.knobs == [])) = true := by kernel_rfl
set_option maxRecDepth 100000 in
theorem lawFnExactAreDeeds_e8 : ((Tryz.prog.stopKnobs == [])) = true := by kernel_rfl
set_option maxRecDepth 100000 in
theorem lawFnExactAreDeeds_e9 : ((Rows.fnExactAreDeedsRow.inPlace == Tryz.prog.inPlace 4)) = true := by kernel_rfl
set_option maxRecDepth 100000 in
theorem lawFnExactAreDeeds_e10 : ((Rows.fnExactAreDeedsRow.unfollowed == Tryz.prog.unfollowed 4)) = true := by kernel_rfl
set_option maxRecDepth 100000 in
theorem lawFnExactAreDeeds_e11 : ((Rows.fnExactAreDeedsRow.recurses == Tryz.prog.recurses 4)) = true := by kernel_rfl
set_option maxRecDepth 100000 in
theorem lawFnExactAreDeeds_e12 : ((Rows.fnExactAreDeedsRow.named == Tryz.prog.varsNamed 4)) = true := by kernel_rfl
set_option maxRecDepth 100000 in
theorem lawFnExactAreDeeds_e13 : ((Rows.fnExactAreDeedsRow.maps == (Tryz.f4.params.toList ++ Rows.fnExactAreDeedsSpec.plain.varTypes Tryz.prog).any (Tryz.prog.mapsRec ·))) = true := by kernel_rfl
set_option maxRecDepth 100000 in
theorem lawFnExactAreDeeds_e14 : ((Rows.fnExactAreDeedsRow.ifaces == (Tryz.f4.params.toList ++ Rows.fnExactAreDeedsSpec.plain.varTypes Tryz.prog).any (Tryz.prog.ifacesRec ·))) = true := by kernel_rfl
set_option maxRecDepth 100000 in
theorem lawFnExactAreDeeds_e15 : ((Rows.fnExactAreDeedsRow.mapsOut == Tryz.prog.mapsAmong Tryz.f4.resultTypes.toList)) = true := by kernel_rfl
set_option maxRecDepth 100000 in
theorem lawFnExactAreDeeds_e16 : ((Rows.fnExactAreDeedsRow.loops == (Tryz.f4.params.toList ++ Rows.fnExactAreDeedsSpec.plain.varTypes Tryz.prog).any (Tryz.prog.loopsFrom ·))) = true := by kernel_rfl
set_option maxRecDepth 100000 in
theorem lawFnExactAreDeeds_e17 : ((Rows.fnExactAreDeedsRow.wideKeys == (Tryz.f4.params.toList ++ Rows.fnExactAreDeedsSpec.plain.varTypes Tryz.prog ++ Tryz.f4.resultTypes.toList).any (Tryz.prog.wideKeysFrom ·))) = true := by kernel_rfl
set_option maxRecDepth 100000 in
theorem lawFnExactAreDeeds_e18 : (Rows.fnExactAreDeedsSpec.vars.all (Tryz.prog.varReadable ·)) = true := by kernel_rfl
end Go.Proofs.YtmmokjnljaifcaaGreatDoor
