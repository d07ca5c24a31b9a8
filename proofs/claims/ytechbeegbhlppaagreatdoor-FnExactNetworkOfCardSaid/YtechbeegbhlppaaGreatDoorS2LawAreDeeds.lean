/- The law FnExactAreDeeds, walked out of the contracts of the program's AreDeeds and the reference's. (Printed by genQw.py.) -/
import Derived.Test.YtechbeegbhlppaaGreatDoorS2Ko
import Derived.Test.YtechbeegbhlppaaGreatDoorS2Qi
import Derived.Deep.RegionHeld3
namespace Go.Proofs.YtechbeegbhlppaaGreatDoor
set_option linter.unusedVariables false
set_option linter.unusedSimpArgs false
open Go.RowKit
attribute [local go_sem] cell_onto
theorem WrlAt.low {w:World} {lo hi:Nat} {v0 v3 v4 v5 v6 v7 v8 v9:Value} {W:Wrl} (h:WrlAt w lo hi v0 v3 v4 v5 v6 v7 v8 v9 W):WrlAt w 0 hi v0 v3 v4 v5 v6 v7 v8 v9 W :=
 ⟨Row.mono h.rg (Nat.zero_le _) (Nat.le_refl _),Row.mono h.ps (Nat.zero_le _) (Nat.le_refl _),Row.mono h.tm (Nat.zero_le _) (Nat.le_refl _),Row.mono h.pl (Nat.zero_le _) (Nat.le_refl _),Row.mono h.wy (Nat.zero_le _) (Nat.le_refl _),Row.mono h.st (Nat.zero_le _) (Nat.le_refl _),Row.mono h.se (Nat.zero_le _) (Nat.le_refl _),Row.mono h.ha (Nat.zero_le _) (Nat.le_refl _)⟩
theorem DsMx.nm {l:List Ded} (h:DsMx l):DsNm l:=fun i hi=>⟨(h i hi).1,(h i hi).2.1⟩
theorem DedsO.low {w:World} {lo:Nat} {v:Value} {l:List Ded} (h:DedsO w lo w.heap.size v l):Deds w 0 w.heap.size v l:=h.deds.mono (Nat.zero_le _) (Nat.le_refl _)
end Go.Proofs.YtechbeegbhlppaaGreatDoor
