/- The law FnExactMarkDays, walked out of the contracts of the program's MarkDays and the reference's. -/
import Derived.Test.YtfmnkojjkjkdeaaDoorJi
import Derived.Test.YtfmnkojjkjkdeaaDoorJk
import Derived.Test.YtfmnkojjkjkdeaaDoorO
import Derived.Deep.RegionHeld3
namespace Go.Proofs.YtfmnkojjkjkdeaaDoor
set_option linter.unusedVariables false
set_option linter.unusedSimpArgs false
open Go.RowKit
attribute [local go_sem] cell_onto

set_option maxHeartbeats 4000000 in
theorem law_MarkDays (v0 : Value) (l0 : List Nsp) (x1 : ByteArray) (w : World) (h0 : Nsps w 0 w.heap.size v0 l0) (hzz0 : ∀ i, i < l0.length → (nspAt l0 i).nm.size ≤ 9223372036854775807) :
    Calls Tryd.prog 4 #[v0, .string x1] w (RetX (.bool true) w) := by
  obtain ⟨A0, c0, rfl, hl0, hc0⟩ := h0.len
  have H0 := Lib.hid (show Nsps w 0 w.heap.size (.slice A0 l0.length c0) l0 from h0)
  clear h0
  have hx := Ext.refl w
  go_enter Tryd.func4, Tryd.ntmps4
  by_cases hg1 : (x1.size : Int) ≤ 1048576
  case neg =>
    go_wp2_with fail
    go_ret
    exact ⟨rfl, (by repeat (first | exact Ext.refl _ | assumption | refine Ext.alloc ?_ _ | refine Ext.drew ?_ | refine Ext.drewN ?_ _ | refine Ext.setCell ?_ (by first | (simp; done) | (simp; omega) | omega) _ | refine Ext.trans ?_ (by assumption)))⟩
  go_wp2_with fail
  refine Calls.mono (laws_szMarkS _ l0 1048576 _ (by omega) (by omega) (H0.out.upAt (by omega) (by repeat (first | exact Ext.refl _ | assumption | refine Ext.alloc ?_ _ | refine Ext.drew ?_ | refine Ext.drewN ?_ _ | refine Ext.setCell ?_ (by first | (simp; done) | (simp; omega) | omega) _ | refine Ext.trans ?_ (by assumption)))) hzz0) ?_
  rintro e w1 ⟨r1, rfl, hx1, hra1, hrb1, hrc1⟩
  have hE : Ext w w1 := (by repeat (first | exact Ext.refl _ | assumption | refine Ext.alloc ?_ _ | refine Ext.drew ?_ | refine Ext.drewN ?_ _ | refine Ext.setCell ?_ (by first | (simp; done) | (simp; omega) | omega) _ | refine Ext.trans ?_ (by assumption)))
  have tmp := Lib.hid (show Nsps w1 0 w.heap.size (.slice A0 l0.length c0) l0 from (Row.ext H0.out hE (by omega)))
  clear H0
  have H0 := tmp
  clear tmp
  have hz2 : w.heap.size ≤ w1.heap.size := hE.size
  replace hx : Ext w w1 := hx.trans hE
  clear hE
  have Hr0 := Lib.hid hrc1
  clear hrc1 hx1
  by_cases hneg1 : r1 < 0
  case pos =>
    go_wp2_with fail
    go_ret
    exact ⟨rfl, (by repeat (first | exact Ext.refl _ | assumption | refine Ext.alloc ?_ _ | refine Ext.drew ?_ | refine Ext.drewN ?_ _ | refine Ext.setCell ?_ (by first | (simp; done) | (simp; omega) | omega) _ | refine Ext.trans ?_ (by assumption)))⟩
  obtain ⟨hsa0, hsb0⟩ := Hr0.out (by omega)
  have Hsm0 := Lib.hid (show l0.length ≤ 1048576 by omega)
  have Hns0 := Lib.hid (show NSm l0 from fun i hi => by have := hsb0 i hi; omega)
  clear hsa0 hsb0
  go_wp2_with fail
  refine Calls.mono (laws_toMarkS _ l0 0 _ _ (H0.out.upAt (by omega) (by repeat (first | exact Ext.refl _ | assumption | refine Ext.alloc ?_ _ | refine Ext.drew ?_ | refine Ext.drewN ?_ _ | refine Ext.setCell ?_ (by first | (simp; done) | (simp; omega) | omega) _ | refine Ext.trans ?_ (by assumption)))) (Nat.le_refl _) Hsm0.out) ?_
  rintro e w3 ⟨sv3, gv3, rfl, hx3, hg3, ho3⟩
  have hE : Ext w1 w3 := (by repeat (first | exact Ext.refl _ | assumption | refine Ext.alloc ?_ _ | refine Ext.drew ?_ | refine Ext.drewN ?_ _ | refine Ext.setCell ?_ (by first | (simp; done) | (simp; omega) | omega) _ | refine Ext.trans ?_ (by assumption)))
  have tmp := Lib.hid (show Nsps w3 0 w.heap.size (.slice A0 l0.length c0) l0 from (Row.ext H0.out hE (by omega)))
  clear H0
  have H0 := tmp
  clear tmp
  have hz4 : w1.heap.size ≤ w3.heap.size := hE.size
  replace hx : Ext w w3 := hx.trans hE
  clear hE
  have R3 := Lib.hid (show Nsps w3 0 w3.heap.size sv3 l0 from ho3.row (fun hn => ⟨Nat.zero_le _, ho3.lt hn⟩))
  clear ho3 hg3
  clear hx3
  go_wp2_with fail
  refine Calls.mono (spec_MarkDays sv3 l0 x1 _ (R3.out.upAt (by omega) (by repeat (first | exact Ext.refl _ | assumption | refine Ext.alloc ?_ _ | refine Ext.drew ?_ | refine Ext.drewN ?_ _ | refine Ext.setCell ?_ (by first | (simp; done) | (simp; omega) | omega) _ | refine Ext.trans ?_ (by assumption)))) Hns0.out) ?_
  rintro e w5 ⟨gs5, gk5, rfl, hx5, hgl5, hgo5⟩
  have hE : Ext w3 w5 := (by repeat (first | exact Ext.refl _ | assumption | refine Ext.alloc ?_ _ | refine Ext.drew ?_ | refine Ext.drewN ?_ _ | refine Ext.setCell ?_ (by first | (simp; done) | (simp; omega) | omega) _ | refine Ext.trans ?_ (by assumption)))
  have tmp := Lib.hid (show Nsps w5 0 w.heap.size (.slice A0 l0.length c0) l0 from (Row.ext H0.out hE (by omega)))
  clear H0
  have H0 := tmp
  clear tmp
  have tmp := Lib.hid (show Nsps w5 0 w3.heap.size sv3 l0 from (Row.ext R3.out hE (by omega)))
  clear R3
  have R3 := tmp
  clear tmp
  have hz6 : w3.heap.size ≤ w5.heap.size := hE.size
  replace hx : Ext w w5 := hx.trans hE
  clear hE
  clear R3
  have W := Lib.hid (show OwnSpans w5 (w3.heap.size) w5.heap.size gs5 (mkdL l0 x1) from ⟨gk5, fun hn => ⟨by have := hgl5 hn; omega, hgo5.lt hn⟩, hgo5⟩)
  clear hgl5
  clear hgo5
  clear hx5
  go_wp2_with fail
  refine Calls.mono (laws_toMarkS _ l0 0 _ _ (H0.out.upAt (by omega) (by repeat (first | exact Ext.refl _ | assumption | refine Ext.alloc ?_ _ | refine Ext.drew ?_ | refine Ext.drewN ?_ _ | refine Ext.setCell ?_ (by first | (simp; done) | (simp; omega) | omega) _ | refine Ext.trans ?_ (by assumption)))) (Nat.le_refl _) Hsm0.out) ?_
  rintro e w7 ⟨sv7, gv7, rfl, hx7, hg7, ho7⟩
  have hE : Ext w5 w7 := (by repeat (first | exact Ext.refl _ | assumption | refine Ext.alloc ?_ _ | refine Ext.drew ?_ | refine Ext.drewN ?_ _ | refine Ext.setCell ?_ (by first | (simp; done) | (simp; omega) | omega) _ | refine Ext.trans ?_ (by assumption)))
  have tmp := Lib.hid (show Nsps w7 0 w.heap.size (.slice A0 l0.length c0) l0 from (Row.ext H0.out hE (by omega)))
  clear H0
  have H0 := tmp
  clear tmp
  have tmp := Lib.hid (show OwnSpans w7 (w3.heap.size) w5.heap.size gs5 (mkdL l0 x1) from (W.out.ext hE (by omega)))
  clear W
  have W := tmp
  clear tmp
  have hz8 : w5.heap.size ≤ w7.heap.size := hE.size
  replace hx : Ext w w7 := hx.trans hE
  clear hE
  have X0 := Lib.hid (show OwnNsps w7 (w5.heap.size) w7.heap.size sv7 l0 from ⟨gv7, fun hn => ⟨by have := hg7 hn; omega, ho7.lt hn⟩, ho7⟩)
  clear ho7 hg7
  clear hx7
  go_wp2_with fail
  refine Calls.mono (impl_MarkDays sv7 l0 x1 _ (Nsps.upAt X0.out.rows (by omega) (by repeat (first | exact Ext.refl _ | assumption | refine Ext.alloc ?_ _ | refine Ext.drew ?_ | refine Ext.drewN ?_ _ | refine Ext.setCell ?_ (by first | (simp; done) | (simp; omega) | omega) _ | refine Ext.trans ?_ (by assumption)))) Hns0.out) ?_
  rintro e w9 ⟨gs9, gk9, rfl, hx9, hgl9, hgo9⟩
  have hE : Ext w7 w9 := (by repeat (first | exact Ext.refl _ | assumption | refine Ext.alloc ?_ _ | refine Ext.drew ?_ | refine Ext.drewN ?_ _ | refine Ext.setCell ?_ (by first | (simp; done) | (simp; omega) | omega) _ | refine Ext.trans ?_ (by assumption)))
  have tmp := Lib.hid (show Nsps w9 0 w.heap.size (.slice A0 l0.length c0) l0 from (Row.ext H0.out hE (by omega)))
  clear H0
  have H0 := tmp
  clear tmp
  have tmp := Lib.hid (show OwnSpans w9 (w3.heap.size) w5.heap.size gs5 (mkdL l0 x1) from (W.out.ext hE (by omega)))
  clear W
  have W := tmp
  clear tmp
  have tmp := Lib.hid (show OwnNsps w9 (w5.heap.size) w7.heap.size sv7 l0 from (X0.out.ext hE (by omega)))
  clear X0
  have X0 := tmp
  clear tmp
  have hz10 : w7.heap.size ≤ w9.heap.size := hE.size
  replace hx : Ext w w9 := hx.trans hE
  clear hE
  have G := Lib.hid (show OwnSpans w9 (w7.heap.size) w9.heap.size gs9 (mkdL l0 x1) from ⟨gk9, fun hn => ⟨by have := hgl9 hn; omega, hgo9.lt hn⟩, hgo9⟩)
  clear hgl9
  clear hgo9
  clear hx9
  go_wp2_with fail
  refine Calls.mono (laws_eqSpanS _ _ (mkdL l0 x1) _ (Spans.upAt G.out.spans (by omega) (by repeat (first | exact Ext.refl _ | assumption | refine Ext.alloc ?_ _ | refine Ext.drew ?_ | refine Ext.drewN ?_ _ | refine Ext.setCell ?_ (by first | (simp; done) | (simp; omega) | omega) _ | refine Ext.trans ?_ (by assumption)))) (Spans.upAt W.out.spans (by omega) (by repeat (first | exact Ext.refl _ | assumption | refine Ext.alloc ?_ _ | refine Ext.drew ?_ | refine Ext.drewN ?_ _ | refine Ext.setCell ?_ (by first | (simp; done) | (simp; omega) | omega) _ | refine Ext.trans ?_ (by assumption))))) ?_
  rintro e w11 ⟨rfl, hx11⟩
  have hE : Ext w9 w11 := (by repeat (first | exact Ext.refl _ | assumption | refine Ext.alloc ?_ _ | refine Ext.drew ?_ | refine Ext.drewN ?_ _ | refine Ext.setCell ?_ (by first | (simp; done) | (simp; omega) | omega) _ | refine Ext.trans ?_ (by assumption)))
  have tmp := Lib.hid (show Nsps w11 0 w.heap.size (.slice A0 l0.length c0) l0 from (Row.ext H0.out hE (by omega)))
  clear H0
  have H0 := tmp
  clear tmp
  have tmp := Lib.hid (show OwnSpans w11 (w3.heap.size) w5.heap.size gs5 (mkdL l0 x1) from (W.out.ext hE (by omega)))
  clear W
  have W := tmp
  clear tmp
  have tmp := Lib.hid (show OwnNsps w11 (w5.heap.size) w7.heap.size sv7 l0 from (X0.out.ext hE (by omega)))
  clear X0
  have X0 := tmp
  clear tmp
  have tmp := Lib.hid (show OwnSpans w11 (w7.heap.size) w9.heap.size gs9 (mkdL l0 x1) from (G.out.ext hE (by omega)))
  clear G
  have G := tmp
  clear tmp
  have hz12 : w9.heap.size ≤ w11.heap.size := hE.size
  replace hx : Ext w w11 := hx.trans hE
  clear hE
  clear hx11
  go_wp2_with fail
  refine Calls.mono (laws_toMarkS _ l0 0 _ _ (H0.out.upAt (by omega) (by repeat (first | exact Ext.refl _ | assumption | refine Ext.alloc ?_ _ | refine Ext.drew ?_ | refine Ext.drewN ?_ _ | refine Ext.setCell ?_ (by first | (simp; done) | (simp; omega) | omega) _ | refine Ext.trans ?_ (by assumption)))) (Nat.le_refl _) Hsm0.out) ?_
  rintro e w13 ⟨sv13, gv13, rfl, hx13, hg13, ho13⟩
  have hE : Ext w11 w13 := (by repeat (first | exact Ext.refl _ | assumption | refine Ext.alloc ?_ _ | refine Ext.drew ?_ | refine Ext.drewN ?_ _ | refine Ext.setCell ?_ (by first | (simp; done) | (simp; omega) | omega) _ | refine Ext.trans ?_ (by assumption)))
  have tmp := Lib.hid (show Nsps w13 0 w.heap.size (.slice A0 l0.length c0) l0 from (Row.ext H0.out hE (by omega)))
  clear H0
  have H0 := tmp
  clear tmp
  have tmp := Lib.hid (show OwnSpans w13 (w3.heap.size) w5.heap.size gs5 (mkdL l0 x1) from (W.out.ext hE (by omega)))
  clear W
  have W := tmp
  clear tmp
  have tmp := Lib.hid (show OwnNsps w13 (w5.heap.size) w7.heap.size sv7 l0 from (X0.out.ext hE (by omega)))
  clear X0
  have X0 := tmp
  clear tmp
  have tmp := Lib.hid (show OwnSpans w13 (w7.heap.size) w9.heap.size gs9 (mkdL l0 x1) from (G.out.ext hE (by omega)))
  clear G
  have G := tmp
  clear tmp
  have hz15 : w11.heap.size ≤ w13.heap.size := hE.size
  replace hx : Ext w w13 := hx.trans hE
  clear hE
  have R13 := Lib.hid (show Nsps w13 0 w13.heap.size _ l0 from ho13.row (fun hn => ⟨Nat.zero_le _, ho13.lt hn⟩))
  clear hx13 hg13 ho13
  go_wp2_with fail
  refine Calls.mono (laws_eqMarkS _ _ l0 _ (Nsps.upAt X0.out.rows (by omega) (by repeat (first | exact Ext.refl _ | assumption | refine Ext.alloc ?_ _ | refine Ext.drew ?_ | refine Ext.drewN ?_ _ | refine Ext.setCell ?_ (by first | (simp; done) | (simp; omega) | omega) _ | refine Ext.trans ?_ (by assumption)))) (R13.out.up (by repeat (first | exact Ext.refl _ | assumption | refine Ext.alloc ?_ _ | refine Ext.drew ?_ | refine Ext.drewN ?_ _ | refine Ext.setCell ?_ (by first | (simp; done) | (simp; omega) | omega) _ | refine Ext.trans ?_ (by assumption))))) ?_
  rintro e w14 ⟨rfl, hx14⟩
  have hE : Ext w13 w14 := (by repeat (first | exact Ext.refl _ | assumption | refine Ext.alloc ?_ _ | refine Ext.drew ?_ | refine Ext.drewN ?_ _ | refine Ext.setCell ?_ (by first | (simp; done) | (simp; omega) | omega) _ | refine Ext.trans ?_ (by assumption)))
  have tmp := Lib.hid (show Nsps w14 0 w.heap.size (.slice A0 l0.length c0) l0 from (Row.ext H0.out hE (by omega)))
  clear H0
  have H0 := tmp
  clear tmp
  have tmp := Lib.hid (show OwnSpans w14 (w3.heap.size) w5.heap.size gs5 (mkdL l0 x1) from (W.out.ext hE (by omega)))
  clear W
  have W := tmp
  clear tmp
  have tmp := Lib.hid (show OwnNsps w14 (w5.heap.size) w7.heap.size sv7 l0 from (X0.out.ext hE (by omega)))
  clear X0
  have X0 := tmp
  clear tmp
  have tmp := Lib.hid (show OwnSpans w14 (w7.heap.size) w9.heap.size gs9 (mkdL l0 x1) from (G.out.ext hE (by omega)))
  clear G
  have G := tmp
  clear tmp
  have hz16 : w13.heap.size ≤ w14.heap.size := hE.size
  replace hx : Ext w w14 := hx.trans hE
  clear hE
  clear hx14 R13
  go_wp2_with fail
  have hnc17 := Hsm0.out
  refine Calls.mono (markNsps _ _ _ l0 (1) _ X0.out Hsm0.out (by omega) (by omega)) ?_
  rintro e w17 ⟨rfl, hO, hm17⟩
  clear hm17 X0
  have tmp := Lib.hid (show Nsps w17 0 w.heap.size (.slice A0 l0.length c0) l0 from (Row.off H0.out hO (fun x h1 h2 hh => by have h3 := hh.1; have h4 := hh.2; omega) (by omega)))
  clear H0
  have H0 := tmp
  clear tmp
  have tmp := Lib.hid (show OwnSpans w17 (w3.heap.size) w5.heap.size gs5 (mkdL l0 x1) from (W.out.off hO (fun x h1 h2 hh => by have h3 := hh.1; have h4 := hh.2; omega) (by omega)))
  clear W
  have W := tmp
  clear tmp
  have tmp := Lib.hid (show OwnSpans w17 (w7.heap.size) w9.heap.size gs9 (mkdL l0 x1) from (G.out.off hO (fun x h1 h2 hh => by have h3 := hh.1; have h4 := hh.2; omega) (by omega)))
  clear G
  have G := tmp
  clear tmp
  have hz18 : w14.heap.size ≤ w17.heap.size := hO.size
  replace hx : Ext w w17 := hx.off hO (fun x h1 hh => by have h3 := hh.1; omega)
  clear hO
  obtain ⟨m17, hmm17⟩ : ∃ m : Int, (1 : Int) + l0.length * 3 = m := ⟨_, rfl⟩
  rw [hmm17]
  have hmn : decide (m17 < 0) = false := decide_eq_false (by omega)
  go_wp2_with fail
  refine Calls.mono (laws_eqSpanS _ _ (mkdL l0 x1) _ (Spans.upAt G.out.spans (by omega) (by repeat (first | exact Ext.refl _ | assumption | refine Ext.alloc ?_ _ | refine Ext.drew ?_ | refine Ext.drewN ?_ _ | refine Ext.setCell ?_ (by first | (simp; done) | (simp; omega) | omega) _ | refine Ext.trans ?_ (by assumption)))) (Spans.upAt W.out.spans (by omega) (by repeat (first | exact Ext.refl _ | assumption | refine Ext.alloc ?_ _ | refine Ext.drew ?_ | refine Ext.drewN ?_ _ | refine Ext.setCell ?_ (by first | (simp; done) | (simp; omega) | omega) _ | refine Ext.trans ?_ (by assumption))))) ?_
  rintro e w19 ⟨rfl, hx19⟩
  have hE : Ext w17 w19 := (by repeat (first | exact Ext.refl _ | assumption | refine Ext.alloc ?_ _ | refine Ext.drew ?_ | refine Ext.drewN ?_ _ | refine Ext.setCell ?_ (by first | (simp; done) | (simp; omega) | omega) _ | refine Ext.trans ?_ (by assumption)))
  have tmp := Lib.hid (show Nsps w19 0 w.heap.size (.slice A0 l0.length c0) l0 from (Row.ext H0.out hE (by omega)))
  clear H0
  have H0 := tmp
  clear tmp
  have tmp := Lib.hid (show OwnSpans w19 (w3.heap.size) w5.heap.size gs5 (mkdL l0 x1) from (W.out.ext hE (by omega)))
  clear W
  have W := tmp
  clear tmp
  have tmp := Lib.hid (show OwnSpans w19 (w7.heap.size) w9.heap.size gs9 (mkdL l0 x1) from (G.out.ext hE (by omega)))
  clear G
  have G := tmp
  clear tmp
  have hz20 : w17.heap.size ≤ w19.heap.size := hE.size
  replace hx : Ext w w19 := hx.trans hE
  clear hE
  clear hx19
  go_wp2_with fail
  have HsR := Lib.hid (mkdL_small l0 x1)
  have hnc21 := HsR.out
  refine Calls.mono (markSpans _ _ _ (mkdL l0 x1) 1 _ G.out HsR.out (by omega) (by omega)) ?_
  rintro e w21 ⟨rfl, hO, hm21⟩
  clear G
  have tmp := Lib.hid (show Nsps w21 0 w.heap.size (.slice A0 l0.length c0) l0 from (Row.off H0.out hO (fun x h1 h2 hh => by have h3 := hh.1; have h4 := hh.2; omega) (by omega)))
  clear H0
  have H0 := tmp
  clear tmp
  have tmp := Lib.hid (show OwnSpans w21 (w3.heap.size) w5.heap.size gs5 (mkdL l0 x1) from (W.out.off hO (fun x h1 h2 hh => by have h3 := hh.1; have h4 := hh.2; omega) (by omega)))
  clear W
  have W := tmp
  clear tmp
  have hz22 : w19.heap.size ≤ w21.heap.size := hO.size
  replace hx : Ext w w21 := hx.off hO (fun x h1 hh => by have h3 := hh.1; omega)
  clear hO
  have G := Lib.hid (show MarkedSpans w21 (w7.heap.size) (w9.heap.size) (gs9) (mkdL l0 x1) 1 from hm21)
  clear hm21
  obtain ⟨m, hmm⟩ : ∃ m : Int, (1 : Int) + (mkdL l0 x1).length * 2 = m := ⟨_, rfl⟩
  rw [hmm]
  have hmz : decide (m < 0) = false := decide_eq_false (by omega)
  have hme : (m != m) = false := bne_self_eq_false m
  go_wp2_with fail
  refine Calls.mono (laws_heldSpanS _ _ _ (mkdL l0 x1).length 1 _ G.out (by omega) HsR.out (by omega) (by omega)) ?_
  rintro e w23 ⟨rfl, hx23⟩
  have hE : Ext w21 w23 := (by repeat (first | exact Ext.refl _ | assumption | refine Ext.alloc ?_ _ | refine Ext.drew ?_ | refine Ext.drewN ?_ _ | refine Ext.setCell ?_ (by first | (simp; done) | (simp; omega) | omega) _ | refine Ext.trans ?_ (by assumption)))
  have tmp := Lib.hid (show Nsps w23 0 w.heap.size (.slice A0 l0.length c0) l0 from (Row.ext H0.out hE (by omega)))
  clear H0
  have H0 := tmp
  clear tmp
  have tmp := Lib.hid (show OwnSpans w23 (w3.heap.size) w5.heap.size gs5 (mkdL l0 x1) from (W.out.ext hE (by omega)))
  clear W
  have W := tmp
  clear tmp
  have tmp := Lib.hid (show MarkedSpans w23 (w7.heap.size) (w9.heap.size) (gs9) (mkdL l0 x1) 1 from (Row.ext G.out hE (by omega)))
  clear G
  have G := tmp
  clear tmp
  have hz24 : w21.heap.size ≤ w23.heap.size := hE.size
  replace hx : Ext w w23 := hx.trans hE
  clear hE
  clear hx23
  rw [hmm]
  go_wp2_with fail
  refine Calls.mono (laws_toMarkS _ l0 0 _ _ (H0.out.upAt (by omega) (by repeat (first | exact Ext.refl _ | assumption | refine Ext.alloc ?_ _ | refine Ext.drew ?_ | refine Ext.drewN ?_ _ | refine Ext.setCell ?_ (by first | (simp; done) | (simp; omega) | omega) _ | refine Ext.trans ?_ (by assumption)))) (Nat.le_refl _) Hsm0.out) ?_
  rintro e w25 ⟨sv25, gv25, rfl, hx25, hg25, ho25⟩
  have hE : Ext w23 w25 := (by repeat (first | exact Ext.refl _ | assumption | refine Ext.alloc ?_ _ | refine Ext.drew ?_ | refine Ext.drewN ?_ _ | refine Ext.setCell ?_ (by first | (simp; done) | (simp; omega) | omega) _ | refine Ext.trans ?_ (by assumption)))
  have tmp := Lib.hid (show Nsps w25 0 w.heap.size (.slice A0 l0.length c0) l0 from (Row.ext H0.out hE (by omega)))
  clear H0
  have H0 := tmp
  clear tmp
  have tmp := Lib.hid (show OwnSpans w25 (w3.heap.size) w5.heap.size gs5 (mkdL l0 x1) from (W.out.ext hE (by omega)))
  clear W
  have W := tmp
  clear tmp
  have tmp := Lib.hid (show MarkedSpans w25 (w7.heap.size) (w9.heap.size) (gs9) (mkdL l0 x1) 1 from (Row.ext G.out hE (by omega)))
  clear G
  have G := tmp
  clear tmp
  have hz26 : w23.heap.size ≤ w25.heap.size := hE.size
  replace hx : Ext w w25 := hx.trans hE
  clear hE
  have R25 := Lib.hid (show Nsps w25 0 w25.heap.size sv25 l0 from ho25.row (fun hn => ⟨Nat.zero_le _, ho25.lt hn⟩))
  clear ho25 hg25
  clear hx25
  go_wp2_with fail
  refine Calls.mono (impl_MarkDays sv25 l0 x1 _ (R25.out.upAt (by omega) (by repeat (first | exact Ext.refl _ | assumption | refine Ext.alloc ?_ _ | refine Ext.drew ?_ | refine Ext.drewN ?_ _ | refine Ext.setCell ?_ (by first | (simp; done) | (simp; omega) | omega) _ | refine Ext.trans ?_ (by assumption)))) Hns0.out) ?_
  rintro e w27 ⟨gs27, gk27, rfl, hx27, hgl27, hgo27⟩
  have hE : Ext w25 w27 := (by repeat (first | exact Ext.refl _ | assumption | refine Ext.alloc ?_ _ | refine Ext.drew ?_ | refine Ext.drewN ?_ _ | refine Ext.setCell ?_ (by first | (simp; done) | (simp; omega) | omega) _ | refine Ext.trans ?_ (by assumption)))
  have tmp := Lib.hid (show Nsps w27 0 w.heap.size (.slice A0 l0.length c0) l0 from (Row.ext H0.out hE (by omega)))
  clear H0
  have H0 := tmp
  clear tmp
  have tmp := Lib.hid (show OwnSpans w27 (w3.heap.size) w5.heap.size gs5 (mkdL l0 x1) from (W.out.ext hE (by omega)))
  clear W
  have W := tmp
  clear tmp
  have tmp := Lib.hid (show MarkedSpans w27 (w7.heap.size) (w9.heap.size) (gs9) (mkdL l0 x1) 1 from (Row.ext G.out hE (by omega)))
  clear G
  have G := tmp
  clear tmp
  have tmp := Lib.hid (show Nsps w27 0 w25.heap.size sv25 l0 from (Row.ext R25.out hE (by omega)))
  clear R25
  have R25 := tmp
  clear tmp
  have hz28 : w25.heap.size ≤ w27.heap.size := hE.size
  replace hx : Ext w w27 := hx.trans hE
  clear hE
  clear R25
  have Hh := Lib.hid (show OwnSpans w27 (w25.heap.size) w27.heap.size gs27 (mkdL l0 x1) from ⟨gk27, fun hn => ⟨by have := hgl27 hn; omega, hgo27.lt hn⟩, hgo27⟩)
  clear hgl27
  clear hgo27
  clear hx27
  go_wp2_with fail
  refine Calls.mono (laws_eqSpanS _ _ (mkdL l0 x1) _ (Spans.upAt Hh.out.spans (by omega) (by repeat (first | exact Ext.refl _ | assumption | refine Ext.alloc ?_ _ | refine Ext.drew ?_ | refine Ext.drewN ?_ _ | refine Ext.setCell ?_ (by first | (simp; done) | (simp; omega) | omega) _ | refine Ext.trans ?_ (by assumption)))) (Spans.upAt W.out.spans (by omega) (by repeat (first | exact Ext.refl _ | assumption | refine Ext.alloc ?_ _ | refine Ext.drew ?_ | refine Ext.drewN ?_ _ | refine Ext.setCell ?_ (by first | (simp; done) | (simp; omega) | omega) _ | refine Ext.trans ?_ (by assumption))))) ?_
  rintro e w29 ⟨rfl, hx29⟩
  have hE : Ext w27 w29 := (by repeat (first | exact Ext.refl _ | assumption | refine Ext.alloc ?_ _ | refine Ext.drew ?_ | refine Ext.drewN ?_ _ | refine Ext.setCell ?_ (by first | (simp; done) | (simp; omega) | omega) _ | refine Ext.trans ?_ (by assumption)))
  have tmp := Lib.hid (show Nsps w29 0 w.heap.size (.slice A0 l0.length c0) l0 from (Row.ext H0.out hE (by omega)))
  clear H0
  have H0 := tmp
  clear tmp
  have tmp := Lib.hid (show OwnSpans w29 (w3.heap.size) w5.heap.size gs5 (mkdL l0 x1) from (W.out.ext hE (by omega)))
  clear W
  have W := tmp
  clear tmp
  have tmp := Lib.hid (show MarkedSpans w29 (w7.heap.size) (w9.heap.size) (gs9) (mkdL l0 x1) 1 from (Row.ext G.out hE (by omega)))
  clear G
  have G := tmp
  clear tmp
  have tmp := Lib.hid (show OwnSpans w29 (w25.heap.size) w27.heap.size gs27 (mkdL l0 x1) from (Hh.out.ext hE (by omega)))
  clear Hh
  have Hh := tmp
  clear tmp
  have hz30 : w27.heap.size ≤ w29.heap.size := hE.size
  replace hx : Ext w w29 := hx.trans hE
  clear hE
  clear hx29
  go_wp2_with fail
  refine Calls.mono (laws_heldSpanS _ _ _ (mkdL l0 x1).length 1 _ G.out (by omega) HsR.out (by omega) (by omega)) ?_
  rintro e w31 ⟨rfl, hx31⟩
  have hE : Ext w29 w31 := (by repeat (first | exact Ext.refl _ | assumption | refine Ext.alloc ?_ _ | refine Ext.drew ?_ | refine Ext.drewN ?_ _ | refine Ext.setCell ?_ (by first | (simp; done) | (simp; omega) | omega) _ | refine Ext.trans ?_ (by assumption)))
  have tmp := Lib.hid (show Nsps w31 0 w.heap.size (.slice A0 l0.length c0) l0 from (Row.ext H0.out hE (by omega)))
  clear H0
  have H0 := tmp
  clear tmp
  have tmp := Lib.hid (show OwnSpans w31 (w3.heap.size) w5.heap.size gs5 (mkdL l0 x1) from (W.out.ext hE (by omega)))
  clear W
  have W := tmp
  clear tmp
  have tmp := Lib.hid (show MarkedSpans w31 (w7.heap.size) (w9.heap.size) (gs9) (mkdL l0 x1) 1 from (Row.ext G.out hE (by omega)))
  clear G
  have G := tmp
  clear tmp
  have tmp := Lib.hid (show OwnSpans w31 (w25.heap.size) w27.heap.size gs27 (mkdL l0 x1) from (Hh.out.ext hE (by omega)))
  clear Hh
  have Hh := tmp
  clear tmp
  have hz32 : w29.heap.size ≤ w31.heap.size := hE.size
  replace hx : Ext w w31 := hx.trans hE
  clear hE
  clear hx31
  rw [hmm]
  go_wp2_with fail
  go_ret
  exact ⟨rfl, hx⟩
end Go.Proofs.YtfmnkojjkjkdeaaDoor
