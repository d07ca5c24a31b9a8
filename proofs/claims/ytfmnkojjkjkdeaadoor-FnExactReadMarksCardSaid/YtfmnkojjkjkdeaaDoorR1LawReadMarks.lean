/- The law FnExactReadMarks, walked out of the contracts of the program's ReadMarks and the reference's. -/
import Derived.Test.YtfmnkojjkjkdeaaDoorR1Jv
import Derived.Test.YtfmnkojjkjkdeaaDoorR1Ji
import Derived.Test.YtfmnkojjkjkdeaaDoorR1E
import Derived.Deep.RegionHeld3
namespace Go.Proofs.YtfmnkojjkjkdeaaDoor
set_option linter.unusedVariables false
set_option linter.unusedSimpArgs false
open Go.RowKit
attribute [local go_sem] cell_onto

theorem rmL_small (s : Bs) : (rmL s).length ≤ 1048576 := by
  unfold rmL
  split
  · rename_i h
    have := h.2.1
    omega
  · simp
set_option maxHeartbeats 4000000 in
theorem law_ReadMarks (x0 : ByteArray) (w : World) (htw : TabW w) (hmx : MaxW w) (hsy : ErrW 2 w) (hra : ErrW 3 w) :
    Calls Tryd.prog 5 #[.string x0] w (RetX (.bool true) w) := by
  have Hhtw := Lib.hid htw
  clear htw
  have Hhmx := Lib.hid hmx
  clear hmx
  have Hhsy := Lib.hid hsy
  clear hsy
  have Hhra := Lib.hid hra
  clear hra
  have hx := Ext.refl w
  go_enter Tryd.func5, Tryd.ntmps5
  by_cases hg0 : (x0.size : Int) ≤ 1048576
  case neg =>
    go_wp2_with fail
    go_ret
    exact ⟨rfl, (by repeat (first | exact Ext.refl _ | assumption | refine Ext.alloc ?_ _ | refine Ext.drew ?_ | refine Ext.drewN ?_ _ | refine Ext.setCell ?_ (by first | (simp; done) | (simp; omega) | omega) _ | refine Ext.trans ?_ (by assumption)))⟩
  go_wp2_with fail
  refine Calls.mono (spec_ReadMarks   x0 _  (by omega)) ?_
  rintro e w1 ⟨gs1, gk1, rfl, hx1, hgl1, hgo1⟩
  have hE : Ext w w1 := (by repeat (first | exact Ext.refl _ | assumption | refine Ext.alloc ?_ _ | refine Ext.drew ?_ | refine Ext.drewN ?_ _ | refine Ext.setCell ?_ (by first | (simp; done) | (simp; omega) | omega) _ | refine Ext.trans ?_ (by assumption)))
  have hz2 : w.heap.size ≤ w1.heap.size := hE.size
  replace hx : Ext w w1 := hx.trans hE
  clear hE
  have W := Lib.hid (show OwnNsps w1 (w.heap.size) w1.heap.size gs1 (rmL x0.data.toList) from ⟨gk1, fun hn => ⟨by have := hgl1 hn; omega, hgo1.lt hn⟩, hgo1⟩)
  clear hgl1
  clear hgo1
  clear hx1
  go_wp2_with fail
  refine Calls.mono (impl_ReadMarks   x0 _  (by omega) (Hhtw.out.ext (by repeat (first | exact Ext.refl _ | assumption | refine Ext.alloc ?_ _ | refine Ext.drew ?_ | refine Ext.drewN ?_ _ | refine Ext.setCell ?_ (by first | (simp; done) | (simp; omega) | omega) _ | refine Ext.trans ?_ (by assumption)))) (Hhmx.out.ext (by repeat (first | exact Ext.refl _ | assumption | refine Ext.alloc ?_ _ | refine Ext.drew ?_ | refine Ext.drewN ?_ _ | refine Ext.setCell ?_ (by first | (simp; done) | (simp; omega) | omega) _ | refine Ext.trans ?_ (by assumption)))) (Hhsy.out.ext (by repeat (first | exact Ext.refl _ | assumption | refine Ext.alloc ?_ _ | refine Ext.drew ?_ | refine Ext.drewN ?_ _ | refine Ext.setCell ?_ (by first | (simp; done) | (simp; omega) | omega) _ | refine Ext.trans ?_ (by assumption)))) (Hhra.out.ext (by repeat (first | exact Ext.refl _ | assumption | refine Ext.alloc ?_ _ | refine Ext.drew ?_ | refine Ext.drewN ?_ _ | refine Ext.setCell ?_ (by first | (simp; done) | (simp; omega) | omega) _ | refine Ext.trans ?_ (by assumption))))) ?_
  rintro e w3 ⟨gs3, gk3, rfl, hx3, hgl3, hgo3⟩
  have hE : Ext w1 w3 := (by repeat (first | exact Ext.refl _ | assumption | refine Ext.alloc ?_ _ | refine Ext.drew ?_ | refine Ext.drewN ?_ _ | refine Ext.setCell ?_ (by first | (simp; done) | (simp; omega) | omega) _ | refine Ext.trans ?_ (by assumption)))
  have tmp := Lib.hid (show OwnNsps w3 (w.heap.size) w1.heap.size gs1 (rmL x0.data.toList) from (W.out.ext hE (by omega)))
  clear W
  have W := tmp
  clear tmp
  have hz4 : w1.heap.size ≤ w3.heap.size := hE.size
  replace hx : Ext w w3 := hx.trans hE
  clear hE
  have G := Lib.hid (show OwnNsps w3 (w1.heap.size) w3.heap.size gs3 (rmL x0.data.toList) from ⟨gk3, fun hn => ⟨by have := hgl3 hn; omega, hgo3.lt hn⟩, hgo3⟩)
  clear hgl3
  clear hgo3
  clear hx3
  go_wp2_with fail
  refine Calls.mono (laws_eqMarkS _ _ (rmL x0.data.toList) _ (Nsps.upAt G.out.rows (by omega) (by repeat (first | exact Ext.refl _ | assumption | refine Ext.alloc ?_ _ | refine Ext.drew ?_ | refine Ext.drewN ?_ _ | refine Ext.setCell ?_ (by first | (simp; done) | (simp; omega) | omega) _ | refine Ext.trans ?_ (by assumption)))) (Nsps.upAt W.out.rows (by omega) (by repeat (first | exact Ext.refl _ | assumption | refine Ext.alloc ?_ _ | refine Ext.drew ?_ | refine Ext.drewN ?_ _ | refine Ext.setCell ?_ (by first | (simp; done) | (simp; omega) | omega) _ | refine Ext.trans ?_ (by assumption))))) ?_
  rintro e w5 ⟨rfl, hx5⟩
  have hE : Ext w3 w5 := (by repeat (first | exact Ext.refl _ | assumption | refine Ext.alloc ?_ _ | refine Ext.drew ?_ | refine Ext.drewN ?_ _ | refine Ext.setCell ?_ (by first | (simp; done) | (simp; omega) | omega) _ | refine Ext.trans ?_ (by assumption)))
  have tmp := Lib.hid (show OwnNsps w5 (w.heap.size) w1.heap.size gs1 (rmL x0.data.toList) from (W.out.ext hE (by omega)))
  clear W
  have W := tmp
  clear tmp
  have tmp := Lib.hid (show OwnNsps w5 (w1.heap.size) w3.heap.size gs3 (rmL x0.data.toList) from (G.out.ext hE (by omega)))
  clear G
  have G := tmp
  clear tmp
  have hz6 : w3.heap.size ≤ w5.heap.size := hE.size
  replace hx : Ext w w5 := hx.trans hE
  clear hE
  clear hx5
  go_wp2_with fail
  have HsR := Lib.hid (rmL_small x0.data.toList)
  have hnc7 := HsR.out
  refine Calls.mono (markNsps _ _ _ (rmL x0.data.toList) 1 _ G.out HsR.out (by omega) (by omega)) ?_
  rintro e w7 ⟨rfl, hO, hm7⟩
  clear G
  have tmp := Lib.hid (show OwnNsps w7 (w.heap.size) w1.heap.size gs1 (rmL x0.data.toList) from (W.out.off hO (fun x h1 h2 hh => by have h3 := hh.1; have h4 := hh.2; omega) (by omega)))
  clear W
  have W := tmp
  clear tmp
  have hz8 : w5.heap.size ≤ w7.heap.size := hO.size
  replace hx : Ext w w7 := hx.off hO (fun x h1 hh => by have h3 := hh.1; omega)
  clear hO
  have G := Lib.hid (show MarkedNsps w7 (w1.heap.size) (w3.heap.size) (gs3) (rmL x0.data.toList) 1 from hm7)
  clear hm7
  obtain ⟨m, hmm⟩ : ∃ m : Int, (1 : Int) + (rmL x0.data.toList).length * 3 = m := ⟨_, rfl⟩
  rw [hmm]
  have hmz : decide (m < 0) = false := decide_eq_false (by omega)
  have hme : (m != m) = false := bne_self_eq_false m
  go_wp2_with fail
  refine Calls.mono (laws_heldMarkS _ _ _ (rmL x0.data.toList).length 1 _ G.out (by omega) HsR.out (by omega) (by omega)) ?_
  rintro e w9 ⟨rfl, hx9⟩
  have hE : Ext w7 w9 := (by repeat (first | exact Ext.refl _ | assumption | refine Ext.alloc ?_ _ | refine Ext.drew ?_ | refine Ext.drewN ?_ _ | refine Ext.setCell ?_ (by first | (simp; done) | (simp; omega) | omega) _ | refine Ext.trans ?_ (by assumption)))
  have tmp := Lib.hid (show OwnNsps w9 (w.heap.size) w1.heap.size gs1 (rmL x0.data.toList) from (W.out.ext hE (by omega)))
  clear W
  have W := tmp
  clear tmp
  have tmp := Lib.hid (show MarkedNsps w9 (w1.heap.size) (w3.heap.size) (gs3) (rmL x0.data.toList) 1 from (Row.ext G.out hE (by omega)))
  clear G
  have G := tmp
  clear tmp
  have hz10 : w7.heap.size ≤ w9.heap.size := hE.size
  replace hx : Ext w w9 := hx.trans hE
  clear hE
  clear hx9
  rw [hmm]
  go_wp2_with fail
  refine Calls.mono (impl_ReadMarks   x0 _  (by omega) (Hhtw.out.ext (by repeat (first | exact Ext.refl _ | assumption | refine Ext.alloc ?_ _ | refine Ext.drew ?_ | refine Ext.drewN ?_ _ | refine Ext.setCell ?_ (by first | (simp; done) | (simp; omega) | omega) _ | refine Ext.trans ?_ (by assumption)))) (Hhmx.out.ext (by repeat (first | exact Ext.refl _ | assumption | refine Ext.alloc ?_ _ | refine Ext.drew ?_ | refine Ext.drewN ?_ _ | refine Ext.setCell ?_ (by first | (simp; done) | (simp; omega) | omega) _ | refine Ext.trans ?_ (by assumption)))) (Hhsy.out.ext (by repeat (first | exact Ext.refl _ | assumption | refine Ext.alloc ?_ _ | refine Ext.drew ?_ | refine Ext.drewN ?_ _ | refine Ext.setCell ?_ (by first | (simp; done) | (simp; omega) | omega) _ | refine Ext.trans ?_ (by assumption)))) (Hhra.out.ext (by repeat (first | exact Ext.refl _ | assumption | refine Ext.alloc ?_ _ | refine Ext.drew ?_ | refine Ext.drewN ?_ _ | refine Ext.setCell ?_ (by first | (simp; done) | (simp; omega) | omega) _ | refine Ext.trans ?_ (by assumption))))) ?_
  rintro e w11 ⟨gs11, gk11, rfl, hx11, hgl11, hgo11⟩
  have hE : Ext w9 w11 := (by repeat (first | exact Ext.refl _ | assumption | refine Ext.alloc ?_ _ | refine Ext.drew ?_ | refine Ext.drewN ?_ _ | refine Ext.setCell ?_ (by first | (simp; done) | (simp; omega) | omega) _ | refine Ext.trans ?_ (by assumption)))
  have tmp := Lib.hid (show OwnNsps w11 (w.heap.size) w1.heap.size gs1 (rmL x0.data.toList) from (W.out.ext hE (by omega)))
  clear W
  have W := tmp
  clear tmp
  have tmp := Lib.hid (show MarkedNsps w11 (w1.heap.size) (w3.heap.size) (gs3) (rmL x0.data.toList) 1 from (Row.ext G.out hE (by omega)))
  clear G
  have G := tmp
  clear tmp
  have hz12 : w9.heap.size ≤ w11.heap.size := hE.size
  replace hx : Ext w w11 := hx.trans hE
  clear hE
  have Hh := Lib.hid (show OwnNsps w11 (w9.heap.size) w11.heap.size gs11 (rmL x0.data.toList) from ⟨gk11, fun hn => ⟨by have := hgl11 hn; omega, hgo11.lt hn⟩, hgo11⟩)
  clear hgl11
  clear hgo11
  clear hx11
  go_wp2_with fail
  refine Calls.mono (laws_eqMarkS _ _ (rmL x0.data.toList) _ (Nsps.upAt Hh.out.rows (by omega) (by repeat (first | exact Ext.refl _ | assumption | refine Ext.alloc ?_ _ | refine Ext.drew ?_ | refine Ext.drewN ?_ _ | refine Ext.setCell ?_ (by first | (simp; done) | (simp; omega) | omega) _ | refine Ext.trans ?_ (by assumption)))) (Nsps.upAt W.out.rows (by omega) (by repeat (first | exact Ext.refl _ | assumption | refine Ext.alloc ?_ _ | refine Ext.drew ?_ | refine Ext.drewN ?_ _ | refine Ext.setCell ?_ (by first | (simp; done) | (simp; omega) | omega) _ | refine Ext.trans ?_ (by assumption))))) ?_
  rintro e w13 ⟨rfl, hx13⟩
  have hE : Ext w11 w13 := (by repeat (first | exact Ext.refl _ | assumption | refine Ext.alloc ?_ _ | refine Ext.drew ?_ | refine Ext.drewN ?_ _ | refine Ext.setCell ?_ (by first | (simp; done) | (simp; omega) | omega) _ | refine Ext.trans ?_ (by assumption)))
  have tmp := Lib.hid (show OwnNsps w13 (w.heap.size) w1.heap.size gs1 (rmL x0.data.toList) from (W.out.ext hE (by omega)))
  clear W
  have W := tmp
  clear tmp
  have tmp := Lib.hid (show MarkedNsps w13 (w1.heap.size) (w3.heap.size) (gs3) (rmL x0.data.toList) 1 from (Row.ext G.out hE (by omega)))
  clear G
  have G := tmp
  clear tmp
  have tmp := Lib.hid (show OwnNsps w13 (w9.heap.size) w11.heap.size gs11 (rmL x0.data.toList) from (Hh.out.ext hE (by omega)))
  clear Hh
  have Hh := tmp
  clear tmp
  have hz14 : w11.heap.size ≤ w13.heap.size := hE.size
  replace hx : Ext w w13 := hx.trans hE
  clear hE
  clear hx13
  go_wp2_with fail
  refine Calls.mono (laws_heldMarkS _ _ _ (rmL x0.data.toList).length 1 _ G.out (by omega) HsR.out (by omega) (by omega)) ?_
  rintro e w15 ⟨rfl, hx15⟩
  have hE : Ext w13 w15 := (by repeat (first | exact Ext.refl _ | assumption | refine Ext.alloc ?_ _ | refine Ext.drew ?_ | refine Ext.drewN ?_ _ | refine Ext.setCell ?_ (by first | (simp; done) | (simp; omega) | omega) _ | refine Ext.trans ?_ (by assumption)))
  have tmp := Lib.hid (show OwnNsps w15 (w.heap.size) w1.heap.size gs1 (rmL x0.data.toList) from (W.out.ext hE (by omega)))
  clear W
  have W := tmp
  clear tmp
  have tmp := Lib.hid (show MarkedNsps w15 (w1.heap.size) (w3.heap.size) (gs3) (rmL x0.data.toList) 1 from (Row.ext G.out hE (by omega)))
  clear G
  have G := tmp
  clear tmp
  have tmp := Lib.hid (show OwnNsps w15 (w9.heap.size) w11.heap.size gs11 (rmL x0.data.toList) from (Hh.out.ext hE (by omega)))
  clear Hh
  have Hh := tmp
  clear tmp
  have hz16 : w13.heap.size ≤ w15.heap.size := hE.size
  replace hx : Ext w w15 := hx.trans hE
  clear hE
  clear hx15
  rw [hmm]
  go_wp2_with fail
  go_ret
  exact ⟨rfl, hx⟩
end Go.Proofs.YtfmnkojjkjkdeaaDoor
