/- Texts merged (a claim holds at most sixty files): G, H, I, J, K, M, P, Q. -/
import Derived.Test.YtechbeegbhlppaaGreatDoorS2A
import Derived.Test.YtechbeegbhlppaaGreatDoorS2Lib
import Derived.Test.YtechbeegbhlppaaGreatDoorS2Bf
import Derived.StillTailTactics
namespace Go.Proofs.YtechbeegbhlppaaGreatDoor
set_option linter.unusedVariables false
set_option linter.unusedSimpArgs false
open Go.RowKit
attribute [local go_sem] cell_onto
theorem NewRow.nil (sz:Nat) (f:Nat → Value) (w:World):NewRow sz 0 f w (.returned (.slice none 0 0)) w :=
 ⟨_,0,rfl,Ext.refl _,fun h=>absurd h (by omega),Nat.zero_le _,none,0,rfl,Nat.le_refl _,fun h=>absurd h (by omega)⟩
theorem Own.cells {w:World} {g off N c:Nat} {f:Nat → Value} (h:Own w g 1 (.slice (some ⟨g,off,none⟩) N c) N f) (hn:0 < N) :
  g < w.heap.size∧∀ i,i < N → w.cell? ⟨g,off+i,none⟩=some (f i)∧w.frozen? ⟨g,off+i,none⟩=false:=by
 obtain ⟨o2,e0,hgw,hc⟩:=h.at_ hn
 simp only [Option.some.injEq,Addr.mk.injEq,true_and,and_true] at e0
 subst e0
 exact ⟨hgw,fun i hi=>hc i (by omega)⟩
end Go.Proofs.YtechbeegbhlppaaGreatDoor
