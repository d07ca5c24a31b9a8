/- Contracts: the reference's l20Bounds. -/
import Derived.Test.YtechbeegbhlppaaGreatDoorS2Bf
import Derived.Test.YtechbeegbhlppaaGreatDoorS2G
import Derived.Test.YtechbeegbhlppaaGreatDoorS2S
import Derived.Deep.DeepCutAuto
namespace Go.Proofs.YtechbeegbhlppaaGreatDoor
set_option linter.unusedVariables false
set_option linter.unusedSimpArgs false
open Go.RowKit
attribute [local go_sem] cell_onto
theorem Dst.off' {S:Nat → Prop} {w w' : World} {b:Nat} {e:TypeId} {sz n:Nat} {v:Value} {xs:List Value} (h:Dst w b e sz v n xs) (hx:Off S w w') (hs:∀ g,b ≤ g → v.ownBlock=some g → ¬ S g):Dst w' b e sz v n xs:=by
 rcases h with h | ⟨h1,h2,h3,h4⟩
 ·exact .inl (ownsRow_off h hx (fun g hg=>hs g (h.lt g hg).1 hg))
 ·exact .inr ⟨h1,h2,h3,fun g hg=>Nat.lt_of_lt_of_le (h4 g hg) hx.size⟩
theorem Dst.ext' {w w' : World} {b:Nat} {e:TypeId} {sz n:Nat} {v:Value} {xs:List Value} (h:Dst w b e sz v n xs) (hx:Ext w w'):Dst w' b e sz v n xs :=
 h.off' (S:=fun _=>False) (Off.of_ext hx) (fun _ _ _ h=>h)
end Go.Proofs.YtechbeegbhlppaaGreatDoor
