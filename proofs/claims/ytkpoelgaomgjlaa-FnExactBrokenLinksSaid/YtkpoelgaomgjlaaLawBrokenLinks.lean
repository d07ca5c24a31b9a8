/- The law FnExactBrokenLinks, walked out of the contracts of the program's BrokenLinks and the reference's. -/
import Derived.Test.YtkpoelgaomgjlaaP
import Derived.Deep.RegionHeld3
namespace Go.Proofs.Ytkpoelgaomgjlaa
set_option linter.unusedVariables false
set_option linter.unusedSimpArgs false
open Go.RowKit
attribute [local go_sem] cell_onto

set_option maxHeartbeats 4000000 in
theorem law_BrokenLinks (s0 k0 : Value) (n0 : Net) (v1 : Value) (l1 : List Int) (w : World) (h0 : NetIn w s0 k0 n0) (h1 : Ints w 0 w.heap.size v1 l1) :
    Calls Try.prog 4 #[.agg #[s0, k0], v1] w (RetX (.bool true) w) := by
  have H0 := Lib.hid (show NetAt w 0 w.heap.size s0 k0 n0 from h0)
  clear h0
  obtain ⟨A1, c1, rfl, hl1, hc1⟩ := h1.len
  have H1 := Lib.hid (show Ints w 0 w.heap.size (.slice A1 l1.length c1) l1 from h1)
  clear h1
  have hx := Ext.refl w
  go_enter Try.func4, Try.ntmps4
  by_cases hg1 : (l1.length : Int) ≤ 1048576
  case neg =>
    go_wp2_with fail
    go_ret
    exact ⟨rfl, (by repeat (first | exact Ext.refl _ | assumption | refine Ext.alloc ?_ _ | refine Ext.drew ?_ | refine Ext.drewN ?_ _ | refine Ext.setCell ?_ (by simp) _ | refine Ext.trans ?_ (by assumption)))⟩
  go_wp2_with fail
  have Hsm1 := Lib.hid (show l1.length ≤ 1048576 by omega)
  refine Calls.mono (laws_szNetwork s0 k0 n0 1048576 _ (by omega) (by omega) (H0.out.up (by omega) (by repeat (first | exact Ext.refl _ | assumption | refine Ext.alloc ?_ _ | refine Ext.drew ?_ | refine Ext.drewN ?_ _ | refine Ext.setCell ?_ (by simp) _ | refine Ext.trans ?_ (by assumption))))) ?_
  rintro e w1 ⟨r1, rfl, hx1, hra1, hrb1, hrc1⟩
  have hE : Ext w w1 := (by repeat (first | exact Ext.refl _ | assumption | refine Ext.alloc ?_ _ | refine Ext.drew ?_ | refine Ext.drewN ?_ _ | refine Ext.setCell ?_ (by simp) _ | refine Ext.trans ?_ (by assumption)))
  have ba0 := (show Boxed w1 (w.heap.size) [s0, k0] from by have hb' := ((Boxed.new w [s0, k0] 25)).ext hx1; exact hb'); have ba00 := ba0.at0; have ba01 := ba0.at1; have ba0g := ba0.1; have Hba0 := Lib.hid ba0; clear ba0
  have tmp := Lib.hid (show NetAt w1 0 w.heap.size s0 k0 n0 from (H0.out.ext hE (by omega)))
  clear H0
  have H0 := tmp
  clear tmp
  have tmp := Lib.hid (show Ints w1 0 w.heap.size (.slice A1 l1.length c1) l1 from (Row.ext H1.out hE (by omega)))
  clear H1
  have H1 := tmp
  clear tmp
  have hz2 : w.heap.size ≤ w1.heap.size := hE.size
  replace hx : Ext w w1 := hx.trans hE
  clear hE
  have hq0 : w.heap.size < w1.heap.size := ba0g
  have Hr0 := Lib.hid hrc1
  clear hrc1 hx1
  by_cases hneg1 : r1 < 0
  case pos =>
    go_wp2_with fail
    go_ret
    exact ⟨rfl, (by repeat (first | exact Ext.refl _ | assumption | refine Ext.alloc ?_ _ | refine Ext.drew ?_ | refine Ext.drewN ?_ _ | refine Ext.setCell ?_ (by simp) _ | refine Ext.trans ?_ (by assumption)))⟩
  have Hsm0 := Lib.hid (Hr0.out (by omega))
  go_wp2_with fail
  refine Calls.mono (laws_toNetwork s0 k0 n0 _ (H0.out.up (by omega) (by repeat (first | exact Ext.refl _ | assumption | refine Ext.alloc ?_ _ | refine Ext.drew ?_ | refine Ext.drewN ?_ _ | refine Ext.setCell ?_ (by simp) _ | refine Ext.trans ?_ (by assumption)))) Hsm0.out) ?_
  rintro e w3 ⟨sv3, kv3, rfl, hx3, ho3⟩
  have hE : Ext w1 w3 := (by repeat (first | exact Ext.refl _ | assumption | refine Ext.alloc ?_ _ | refine Ext.drew ?_ | refine Ext.drewN ?_ _ | refine Ext.setCell ?_ (by simp) _ | refine Ext.trans ?_ (by assumption)))
  clear ba00 ba01 ba0g
  have ba0 := Hba0.out.ext hE
  clear Hba0
  have ba00 := ba0.at0
  have ba01 := ba0.at1
  have ba0g := ba0.1
  have Hba0 := Lib.hid ba0
  clear ba0
  have tmp := Lib.hid (show NetAt w3 0 w.heap.size s0 k0 n0 from (H0.out.ext hE (by omega)))
  clear H0
  have H0 := tmp
  clear tmp
  have tmp := Lib.hid (show Ints w3 0 w.heap.size (.slice A1 l1.length c1) l1 from (Row.ext H1.out hE (by omega)))
  clear H1
  have H1 := tmp
  clear tmp
  have hz4 : w1.heap.size ≤ w3.heap.size := hE.size
  replace hx : Ext w w3 := hx.trans hE
  clear hE
  have R3 := Lib.hid (show NetAt w3 0 w3.heap.size sv3 kv3 n0 from ho3.net.netIn)
  clear ho3
  clear hx3
  go_wp2_with fail
  refine Calls.mono (laws_toInt64S _ l1 0 _ _ (H1.out.upAt (by omega) (by repeat (first | exact Ext.refl _ | assumption | refine Ext.alloc ?_ _ | refine Ext.drew ?_ | refine Ext.drewN ?_ _ | refine Ext.setCell ?_ (by simp) _ | refine Ext.trans ?_ (by assumption)))) (Nat.le_refl _) Hsm1.out) ?_
  rintro e w5 ⟨sv5, gv5, rfl, hx5, hg5, ho5⟩
  have hE : Ext w3 w5 := (by repeat (first | exact Ext.refl _ | assumption | refine Ext.alloc ?_ _ | refine Ext.drew ?_ | refine Ext.drewN ?_ _ | refine Ext.setCell ?_ (by simp) _ | refine Ext.trans ?_ (by assumption)))
  clear ba00 ba01 ba0g
  have ba0 := Hba0.out.ext hE
  clear Hba0
  have ba00 := ba0.at0
  have ba01 := ba0.at1
  have ba0g := ba0.1
  have Hba0 := Lib.hid ba0
  clear ba0
  have tmp := Lib.hid (show NetAt w5 0 w.heap.size s0 k0 n0 from (H0.out.ext hE (by omega)))
  clear H0
  have H0 := tmp
  clear tmp
  have tmp := Lib.hid (show Ints w5 0 w.heap.size (.slice A1 l1.length c1) l1 from (Row.ext H1.out hE (by omega)))
  clear H1
  have H1 := tmp
  clear tmp
  have tmp := Lib.hid (show NetAt w5 0 w3.heap.size sv3 kv3 n0 from (R3.out.ext hE (by omega)))
  clear R3
  have R3 := tmp
  clear tmp
  have hz6 : w3.heap.size ≤ w5.heap.size := hE.size
  replace hx : Ext w w5 := hx.trans hE
  clear hE
  have R5 := Lib.hid (show Ints w5 0 w5.heap.size sv5 l1 from ho5.row (fun hn => ⟨Nat.zero_le _, ho5.lt hn⟩))
  clear ho5 hg5
  clear hx5
  go_wp2_with fail
  refine Calls.mono (spec_BrokenLinks sv3 kv3 sv5 n0 l1  _ (R3.out.up (by omega) (by repeat (first | exact Ext.refl _ | assumption | refine Ext.alloc ?_ _ | refine Ext.drew ?_ | refine Ext.drewN ?_ _ | refine Ext.setCell ?_ (by simp) _ | refine Ext.trans ?_ (by assumption)))) (R5.out.upAt (by omega) (by repeat (first | exact Ext.refl _ | assumption | refine Ext.alloc ?_ _ | refine Ext.drew ?_ | refine Ext.drewN ?_ _ | refine Ext.setCell ?_ (by simp) _ | refine Ext.trans ?_ (by assumption))))) ?_
  rintro e w7 ⟨gs7, gk7, rfl, hx7, hgl7, hgo7⟩
  have hE : Ext w5 w7 := (by repeat (first | exact Ext.refl _ | assumption | refine Ext.alloc ?_ _ | refine Ext.drew ?_ | refine Ext.drewN ?_ _ | refine Ext.setCell ?_ (by simp) _ | refine Ext.trans ?_ (by assumption)))
  clear ba00 ba01 ba0g
  have ba0 := Hba0.out.ext hE
  clear Hba0
  have ba00 := ba0.at0
  have ba01 := ba0.at1
  have ba0g := ba0.1
  have Hba0 := Lib.hid ba0
  clear ba0
  have tmp := Lib.hid (show NetAt w7 0 w.heap.size s0 k0 n0 from (H0.out.ext hE (by omega)))
  clear H0
  have H0 := tmp
  clear tmp
  have tmp := Lib.hid (show Ints w7 0 w.heap.size (.slice A1 l1.length c1) l1 from (Row.ext H1.out hE (by omega)))
  clear H1
  have H1 := tmp
  clear tmp
  have tmp := Lib.hid (show NetAt w7 0 w3.heap.size sv3 kv3 n0 from (R3.out.ext hE (by omega)))
  clear R3
  have R3 := tmp
  clear tmp
  have tmp := Lib.hid (show Ints w7 0 w5.heap.size sv5 l1 from (Row.ext R5.out hE (by omega)))
  clear R5
  have R5 := tmp
  clear tmp
  have hz8 : w5.heap.size ≤ w7.heap.size := hE.size
  replace hx : Ext w w7 := hx.trans hE
  clear hE
  clear R3
  clear R5
  have W := Lib.hid (show OwnInts w7 (w5.heap.size) w7.heap.size gs7 (brokenV n0 l1) from ⟨gk7, fun hn => ⟨by have := hgl7 hn; omega, hgo7.lt hn⟩, hgo7⟩)
  clear hgl7
  clear hgo7
  clear hx7
  go_wp2_with fail
  refine Calls.mono (laws_toNetwork s0 k0 n0 _ (H0.out.up (by omega) (by repeat (first | exact Ext.refl _ | assumption | refine Ext.alloc ?_ _ | refine Ext.drew ?_ | refine Ext.drewN ?_ _ | refine Ext.setCell ?_ (by simp) _ | refine Ext.trans ?_ (by assumption)))) Hsm0.out) ?_
  rintro e w9 ⟨sv9, kv9, rfl, hx9, ho9⟩
  have hE : Ext w7 w9 := (by repeat (first | exact Ext.refl _ | assumption | refine Ext.alloc ?_ _ | refine Ext.drew ?_ | refine Ext.drewN ?_ _ | refine Ext.setCell ?_ (by simp) _ | refine Ext.trans ?_ (by assumption)))
  clear ba00 ba01 ba0g
  have ba0 := Hba0.out.ext hE
  clear Hba0
  have ba00 := ba0.at0
  have ba01 := ba0.at1
  have ba0g := ba0.1
  have Hba0 := Lib.hid ba0
  clear ba0
  have tmp := Lib.hid (show NetAt w9 0 w.heap.size s0 k0 n0 from (H0.out.ext hE (by omega)))
  clear H0
  have H0 := tmp
  clear tmp
  have tmp := Lib.hid (show Ints w9 0 w.heap.size (.slice A1 l1.length c1) l1 from (Row.ext H1.out hE (by omega)))
  clear H1
  have H1 := tmp
  clear tmp
  have tmp := Lib.hid (show OwnInts w9 (w5.heap.size) w7.heap.size gs7 (brokenV n0 l1) from (W.out.ext hE (by omega)))
  clear W
  have W := tmp
  clear tmp
  have hz10 : w7.heap.size ≤ w9.heap.size := hE.size
  replace hx : Ext w w9 := hx.trans hE
  clear hE
  obtain ⟨As9, cs9, rfl, _, _⟩ := ho9.at_.1.len
  obtain ⟨Ak9, ck9, rfl, _, _⟩ := ho9.at_.2.len
  have X0 := Lib.hid (show OwnNet w9 (w7.heap.size) w9.heap.size (.agg #[.slice As9 (n0).sets.length cs9, .slice Ak9 (n0).links.length ck9]) n0 from ho9)
  clear ho9
  clear hx9
  go_wp2_with fail
  have hE : Ext w9 (w9.alloc (.cells #[.slice As9 (n0).sets.length cs9, .slice Ak9 (n0).links.length ck9] 32)) := (by repeat (first | exact Ext.refl _ | assumption | refine Ext.alloc ?_ _ | refine Ext.drew ?_ | refine Ext.drewN ?_ _ | refine Ext.setCell ?_ (by simp) _ | refine Ext.trans ?_ (by assumption)))
  clear ba00 ba01 ba0g
  have ba0 := Hba0.out.ext hE
  clear Hba0
  have ba00 := ba0.at0
  have ba01 := ba0.at1
  have ba0g := ba0.1
  have Hba0 := Lib.hid ba0
  clear ba0
  have tmp := Lib.hid (show NetAt (w9.alloc (.cells #[.slice As9 (n0).sets.length cs9, .slice Ak9 (n0).links.length ck9] 32)) 0 w.heap.size s0 k0 n0 from (H0.out.ext hE (by omega)))
  clear H0
  have H0 := tmp
  clear tmp
  have tmp := Lib.hid (show Ints (w9.alloc (.cells #[.slice As9 (n0).sets.length cs9, .slice Ak9 (n0).links.length ck9] 32)) 0 w.heap.size (.slice A1 l1.length c1) l1 from (Row.ext H1.out hE (by omega)))
  clear H1
  have H1 := tmp
  clear tmp
  have tmp := Lib.hid (show OwnInts (w9.alloc (.cells #[.slice As9 (n0).sets.length cs9, .slice Ak9 (n0).links.length ck9] 32)) (w5.heap.size) w7.heap.size gs7 (brokenV n0 l1) from (W.out.ext hE (by omega)))
  clear W
  have W := tmp
  clear tmp
  have tmp := Lib.hid (show OwnNet (w9.alloc (.cells #[.slice As9 (n0).sets.length cs9, .slice Ak9 (n0).links.length ck9] 32)) (w7.heap.size) w9.heap.size (.agg #[.slice As9 (n0).sets.length cs9, .slice Ak9 (n0).links.length ck9]) n0 from (X0.out.ext' hE (by omega)))
  clear X0
  have X0 := tmp
  clear tmp
  have hz11 : w9.heap.size ≤ (w9.alloc (.cells #[.slice As9 (n0).sets.length cs9, .slice Ak9 (n0).links.length ck9] 32)).heap.size := hE.size
  replace hx : Ext w (w9.alloc (.cells #[.slice As9 (n0).sets.length cs9, .slice Ak9 (n0).links.length ck9] 32)) := hx.trans hE
  clear hE
  have Hbx0 := Lib.hid (Boxed.new w9 [.slice As9 (n0).sets.length cs9, .slice Ak9 (n0).links.length ck9] 32)
  have bx0 := Hbx0.out
  clear Hbx0
  have bx00 := bx0.at0
  have bx01 := bx0.at1
  have bx0g := bx0.1
  have Hbx0 := Lib.hid bx0
  clear bx0
  have hzb12 : (w9.alloc (.cells #[.slice As9 (n0).sets.length cs9, .slice Ak9 (n0).links.length ck9] 32)).heap.size = w9.heap.size + 1 := World.size_alloc _ _
  refine Calls.mono (laws_toInt64S _ l1 0 _ _ (H1.out.upAt (by omega) (by repeat (first | exact Ext.refl _ | assumption | refine Ext.alloc ?_ _ | refine Ext.drew ?_ | refine Ext.drewN ?_ _ | refine Ext.setCell ?_ (by simp) _ | refine Ext.trans ?_ (by assumption)))) (Nat.le_refl _) Hsm1.out) ?_
  rintro e w13 ⟨sv13, gv13, rfl, hx13, hg13, ho13⟩
  have hE : Ext (w9.alloc (.cells #[.slice As9 (n0).sets.length cs9, .slice Ak9 (n0).links.length ck9] 32)) w13 := (by repeat (first | exact Ext.refl _ | assumption | refine Ext.alloc ?_ _ | refine Ext.drew ?_ | refine Ext.drewN ?_ _ | refine Ext.setCell ?_ (by simp) _ | refine Ext.trans ?_ (by assumption)))
  clear ba00 ba01 ba0g
  have ba0 := Hba0.out.ext hE
  clear Hba0
  have ba00 := ba0.at0
  have ba01 := ba0.at1
  have ba0g := ba0.1
  have Hba0 := Lib.hid ba0
  clear ba0
  clear bx00 bx01 bx0g
  have bx0 := Hbx0.out.ext hE
  clear Hbx0
  have bx00 := bx0.at0
  have bx01 := bx0.at1
  have bx0g := bx0.1
  have Hbx0 := Lib.hid bx0
  clear bx0
  have tmp := Lib.hid (show NetAt w13 0 w.heap.size s0 k0 n0 from (H0.out.ext hE (by omega)))
  clear H0
  have H0 := tmp
  clear tmp
  have tmp := Lib.hid (show Ints w13 0 w.heap.size (.slice A1 l1.length c1) l1 from (Row.ext H1.out hE (by omega)))
  clear H1
  have H1 := tmp
  clear tmp
  have tmp := Lib.hid (show OwnInts w13 (w5.heap.size) w7.heap.size gs7 (brokenV n0 l1) from (W.out.ext hE (by omega)))
  clear W
  have W := tmp
  clear tmp
  have tmp := Lib.hid (show OwnNet w13 (w7.heap.size) w9.heap.size (.agg #[.slice As9 (n0).sets.length cs9, .slice Ak9 (n0).links.length ck9]) n0 from (X0.out.ext' hE (by omega)))
  clear X0
  have X0 := tmp
  clear tmp
  have hz14 : (w9.alloc (.cells #[.slice As9 (n0).sets.length cs9, .slice Ak9 (n0).links.length ck9] 32)).heap.size ≤ w13.heap.size := hE.size
  replace hx : Ext w w13 := hx.trans hE
  clear hE
  have X1 := Lib.hid (show OwnInts w13 ((w9.alloc (.cells #[.slice As9 (n0).sets.length cs9, .slice Ak9 (n0).links.length ck9] 32)).heap.size) w13.heap.size sv13 l1 from ⟨gv13, fun hn => ⟨by have := hg13 hn; omega, ho13.lt hn⟩, ho13⟩)
  clear ho13 hg13
  clear hx13
  go_wp2_with fail
  refine Calls.mono (impl_BrokenLinks (.slice As9 (n0).sets.length cs9) (.slice Ak9 (n0).links.length ck9) sv13 n0 l1  _ (NetAt.up X0.out.at_ (by omega) (by repeat (first | exact Ext.refl _ | assumption | refine Ext.alloc ?_ _ | refine Ext.drew ?_ | refine Ext.drewN ?_ _ | refine Ext.setCell ?_ (by simp) _ | refine Ext.trans ?_ (by assumption)))) (Ints.upAt X1.out.ints (by omega) (by repeat (first | exact Ext.refl _ | assumption | refine Ext.alloc ?_ _ | refine Ext.drew ?_ | refine Ext.drewN ?_ _ | refine Ext.setCell ?_ (by simp) _ | refine Ext.trans ?_ (by assumption))))) ?_
  rintro e w15 ⟨gs15, gk15, rfl, hx15, hgl15, hgo15⟩
  have hE : Ext w13 w15 := (by repeat (first | exact Ext.refl _ | assumption | refine Ext.alloc ?_ _ | refine Ext.drew ?_ | refine Ext.drewN ?_ _ | refine Ext.setCell ?_ (by simp) _ | refine Ext.trans ?_ (by assumption)))
  clear ba00 ba01 ba0g
  have ba0 := Hba0.out.ext hE
  clear Hba0
  have ba00 := ba0.at0
  have ba01 := ba0.at1
  have ba0g := ba0.1
  have Hba0 := Lib.hid ba0
  clear ba0
  clear bx00 bx01 bx0g
  have bx0 := Hbx0.out.ext hE
  clear Hbx0
  have bx00 := bx0.at0
  have bx01 := bx0.at1
  have bx0g := bx0.1
  have Hbx0 := Lib.hid bx0
  clear bx0
  have tmp := Lib.hid (show NetAt w15 0 w.heap.size s0 k0 n0 from (H0.out.ext hE (by omega)))
  clear H0
  have H0 := tmp
  clear tmp
  have tmp := Lib.hid (show Ints w15 0 w.heap.size (.slice A1 l1.length c1) l1 from (Row.ext H1.out hE (by omega)))
  clear H1
  have H1 := tmp
  clear tmp
  have tmp := Lib.hid (show OwnInts w15 (w5.heap.size) w7.heap.size gs7 (brokenV n0 l1) from (W.out.ext hE (by omega)))
  clear W
  have W := tmp
  clear tmp
  have tmp := Lib.hid (show OwnNet w15 (w7.heap.size) w9.heap.size (.agg #[.slice As9 (n0).sets.length cs9, .slice Ak9 (n0).links.length ck9]) n0 from (X0.out.ext' hE (by omega)))
  clear X0
  have X0 := tmp
  clear tmp
  have tmp := Lib.hid (show OwnInts w15 ((w9.alloc (.cells #[.slice As9 (n0).sets.length cs9, .slice Ak9 (n0).links.length ck9] 32)).heap.size) w13.heap.size sv13 l1 from (X1.out.ext hE (by omega)))
  clear X1
  have X1 := tmp
  clear tmp
  have hz16 : w13.heap.size ≤ w15.heap.size := hE.size
  replace hx : Ext w w15 := hx.trans hE
  clear hE
  have G := Lib.hid (show OwnInts w15 (w13.heap.size) w15.heap.size gs15 (brokenV n0 l1) from ⟨gk15, fun hn => ⟨by have := hgl15 hn; omega, hgo15.lt hn⟩, hgo15⟩)
  clear hgl15
  clear hgo15
  clear hx15
  go_wp2_with fail
  refine Calls.mono (laws_eqInt64S _ _ (brokenV n0 l1) _ (Ints.upAt G.out.ints (by omega) (by repeat (first | exact Ext.refl _ | assumption | refine Ext.alloc ?_ _ | refine Ext.drew ?_ | refine Ext.drewN ?_ _ | refine Ext.setCell ?_ (by simp) _ | refine Ext.trans ?_ (by assumption)))) (Ints.upAt W.out.ints (by omega) (by repeat (first | exact Ext.refl _ | assumption | refine Ext.alloc ?_ _ | refine Ext.drew ?_ | refine Ext.drewN ?_ _ | refine Ext.setCell ?_ (by simp) _ | refine Ext.trans ?_ (by assumption))))) ?_
  rintro e w17 ⟨rfl, hx17⟩
  have hE : Ext w15 w17 := (by repeat (first | exact Ext.refl _ | assumption | refine Ext.alloc ?_ _ | refine Ext.drew ?_ | refine Ext.drewN ?_ _ | refine Ext.setCell ?_ (by simp) _ | refine Ext.trans ?_ (by assumption)))
  clear ba00 ba01 ba0g
  have ba0 := Hba0.out.ext hE
  clear Hba0
  have ba00 := ba0.at0
  have ba01 := ba0.at1
  have ba0g := ba0.1
  have Hba0 := Lib.hid ba0
  clear ba0
  clear bx00 bx01 bx0g
  have bx0 := Hbx0.out.ext hE
  clear Hbx0
  have bx00 := bx0.at0
  have bx01 := bx0.at1
  have bx0g := bx0.1
  have Hbx0 := Lib.hid bx0
  clear bx0
  have tmp := Lib.hid (show NetAt w17 0 w.heap.size s0 k0 n0 from (H0.out.ext hE (by omega)))
  clear H0
  have H0 := tmp
  clear tmp
  have tmp := Lib.hid (show Ints w17 0 w.heap.size (.slice A1 l1.length c1) l1 from (Row.ext H1.out hE (by omega)))
  clear H1
  have H1 := tmp
  clear tmp
  have tmp := Lib.hid (show OwnInts w17 (w5.heap.size) w7.heap.size gs7 (brokenV n0 l1) from (W.out.ext hE (by omega)))
  clear W
  have W := tmp
  clear tmp
  have tmp := Lib.hid (show OwnNet w17 (w7.heap.size) w9.heap.size (.agg #[.slice As9 (n0).sets.length cs9, .slice Ak9 (n0).links.length ck9]) n0 from (X0.out.ext' hE (by omega)))
  clear X0
  have X0 := tmp
  clear tmp
  have tmp := Lib.hid (show OwnInts w17 ((w9.alloc (.cells #[.slice As9 (n0).sets.length cs9, .slice Ak9 (n0).links.length ck9] 32)).heap.size) w13.heap.size sv13 l1 from (X1.out.ext hE (by omega)))
  clear X1
  have X1 := tmp
  clear tmp
  have tmp := Lib.hid (show OwnInts w17 (w13.heap.size) w15.heap.size gs15 (brokenV n0 l1) from (G.out.ext hE (by omega)))
  clear G
  have G := tmp
  clear tmp
  have hz18 : w15.heap.size ≤ w17.heap.size := hE.size
  replace hx : Ext w w17 := hx.trans hE
  clear hE
  clear hx17
  go_wp2_with fail
  go_region_held3 (fun w' => w'.cell? ⟨w.heap.size, 0, none⟩ = some (s0) ∧ w'.cell? ⟨w.heap.size, 1, none⟩ = some (k0) ∧ w'.cell? ⟨w9.heap.size, 0, none⟩ = some (.slice As9 (n0).sets.length cs9) ∧ w'.cell? ⟨w9.heap.size, 1, none⟩ = some (.slice Ak9 (n0).links.length ck9) ∧ Ext w17 w')
    (exact Ext.and_cell ba0g ba00 (by repeat (first | exact Ext.refl _ | assumption | refine Ext.alloc ?_ _ | refine Ext.drew ?_ | refine Ext.drewN ?_ _ | refine Ext.setCell ?_ (by simp) _ | refine Ext.trans ?_ (by assumption))) (Ext.and_cell ba0g ba01 (by repeat (first | exact Ext.refl _ | assumption | refine Ext.alloc ?_ _ | refine Ext.drew ?_ | refine Ext.drewN ?_ _ | refine Ext.setCell ?_ (by simp) _ | refine Ext.trans ?_ (by assumption))) (Ext.and_cell bx0g bx00 (by repeat (first | exact Ext.refl _ | assumption | refine Ext.alloc ?_ _ | refine Ext.drew ?_ | refine Ext.drewN ?_ _ | refine Ext.setCell ?_ (by simp) _ | refine Ext.trans ?_ (by assumption))) (Ext.and_cell bx0g bx01 (by repeat (first | exact Ext.refl _ | assumption | refine Ext.alloc ?_ _ | refine Ext.drew ?_ | refine Ext.drewN ?_ _ | refine Ext.setCell ?_ (by simp) _ | refine Ext.trans ?_ (by assumption))) (by repeat (first | exact Ext.refl _ | assumption | refine Ext.alloc ?_ _ | refine Ext.drew ?_ | refine Ext.drewN ?_ _ | refine Ext.setCell ?_ (by simp) _ | refine Ext.trans ?_ (by assumption)))))))
    (first
      | (go_at_call 16; refine Calls.mono (laws_toNetwork s0 k0 n0 _ (H0.out.up (by omega) (by repeat (first | exact Ext.refl _ | assumption | refine Ext.alloc ?_ _ | refine Ext.drew ?_ | refine Ext.drewN ?_ _ | refine Ext.setCell ?_ (by simp) _ | refine Ext.trans ?_ (by assumption)))) Hsm0.out) ?_; rintro e w19 ⟨sv19, kv19, rfl, hx19, ho19⟩)
      | (go_at_call 18; refine Calls.mono (laws_eqNetwork _ _ _ _ n0 _ (NetAt.up X0.out.at_ (by omega) (by repeat (first | exact Ext.refl _ | assumption | refine Ext.alloc ?_ _ | refine Ext.drew ?_ | refine Ext.drewN ?_ _ | refine Ext.setCell ?_ (by simp) _ | refine Ext.trans ?_ (by assumption)))) ((show NetIn w19 sv19 kv19 n0 from ho19.net.netIn).up (by repeat (first | exact Ext.refl _ | assumption | refine Ext.alloc ?_ _ | refine Ext.drew ?_ | refine Ext.drewN ?_ _ | refine Ext.setCell ?_ (by simp) _ | refine Ext.trans ?_ (by assumption))))) ?_; rintro e w20 ⟨rfl, hx20⟩))
  have hE : Ext w17 w20 := (by repeat (first | exact Ext.refl _ | assumption | refine Ext.alloc ?_ _ | refine Ext.drew ?_ | refine Ext.drewN ?_ _ | refine Ext.setCell ?_ (by simp) _ | refine Ext.trans ?_ (by assumption)))
  clear ba00 ba01 ba0g
  have ba0 := Hba0.out.ext hE
  clear Hba0
  have ba00 := ba0.at0
  have ba01 := ba0.at1
  have ba0g := ba0.1
  have Hba0 := Lib.hid ba0
  clear ba0
  clear bx00 bx01 bx0g
  have bx0 := Hbx0.out.ext hE
  clear Hbx0
  have bx00 := bx0.at0
  have bx01 := bx0.at1
  have bx0g := bx0.1
  have Hbx0 := Lib.hid bx0
  clear bx0
  have tmp := Lib.hid (show NetAt w20 0 w.heap.size s0 k0 n0 from (H0.out.ext hE (by omega)))
  clear H0
  have H0 := tmp
  clear tmp
  have tmp := Lib.hid (show Ints w20 0 w.heap.size (.slice A1 l1.length c1) l1 from (Row.ext H1.out hE (by omega)))
  clear H1
  have H1 := tmp
  clear tmp
  have tmp := Lib.hid (show OwnInts w20 (w5.heap.size) w7.heap.size gs7 (brokenV n0 l1) from (W.out.ext hE (by omega)))
  clear W
  have W := tmp
  clear tmp
  have tmp := Lib.hid (show OwnNet w20 (w7.heap.size) w9.heap.size (.agg #[.slice As9 (n0).sets.length cs9, .slice Ak9 (n0).links.length ck9]) n0 from (X0.out.ext' hE (by omega)))
  clear X0
  have X0 := tmp
  clear tmp
  have tmp := Lib.hid (show OwnInts w20 ((w9.alloc (.cells #[.slice As9 (n0).sets.length cs9, .slice Ak9 (n0).links.length ck9] 32)).heap.size) w13.heap.size sv13 l1 from (X1.out.ext hE (by omega)))
  clear X1
  have X1 := tmp
  clear tmp
  have tmp := Lib.hid (show OwnInts w20 (w13.heap.size) w15.heap.size gs15 (brokenV n0 l1) from (G.out.ext hE (by omega)))
  clear G
  have G := tmp
  clear tmp
  have hz21 : w17.heap.size ≤ w20.heap.size := hE.size
  replace hx : Ext w w20 := hx.trans hE
  clear hE
  clear hx19 ho19 hx20
  go_wp2_with fail
  refine Calls.mono (laws_toInt64S _ l1 0 _ _ (H1.out.upAt (by omega) (by repeat (first | exact Ext.refl _ | assumption | refine Ext.alloc ?_ _ | refine Ext.drew ?_ | refine Ext.drewN ?_ _ | refine Ext.setCell ?_ (by simp) _ | refine Ext.trans ?_ (by assumption)))) (Nat.le_refl _) Hsm1.out) ?_
  rintro e w22 ⟨sv22, gv22, rfl, hx22, hg22, ho22⟩
  have hE : Ext w20 w22 := (by repeat (first | exact Ext.refl _ | assumption | refine Ext.alloc ?_ _ | refine Ext.drew ?_ | refine Ext.drewN ?_ _ | refine Ext.setCell ?_ (by simp) _ | refine Ext.trans ?_ (by assumption)))
  clear ba00 ba01 ba0g
  have ba0 := Hba0.out.ext hE
  clear Hba0
  have ba00 := ba0.at0
  have ba01 := ba0.at1
  have ba0g := ba0.1
  have Hba0 := Lib.hid ba0
  clear ba0
  clear bx00 bx01 bx0g
  have bx0 := Hbx0.out.ext hE
  clear Hbx0
  have bx00 := bx0.at0
  have bx01 := bx0.at1
  have bx0g := bx0.1
  have Hbx0 := Lib.hid bx0
  clear bx0
  have tmp := Lib.hid (show NetAt w22 0 w.heap.size s0 k0 n0 from (H0.out.ext hE (by omega)))
  clear H0
  have H0 := tmp
  clear tmp
  have tmp := Lib.hid (show Ints w22 0 w.heap.size (.slice A1 l1.length c1) l1 from (Row.ext H1.out hE (by omega)))
  clear H1
  have H1 := tmp
  clear tmp
  have tmp := Lib.hid (show OwnInts w22 (w5.heap.size) w7.heap.size gs7 (brokenV n0 l1) from (W.out.ext hE (by omega)))
  clear W
  have W := tmp
  clear tmp
  have tmp := Lib.hid (show OwnNet w22 (w7.heap.size) w9.heap.size (.agg #[.slice As9 (n0).sets.length cs9, .slice Ak9 (n0).links.length ck9]) n0 from (X0.out.ext' hE (by omega)))
  clear X0
  have X0 := tmp
  clear tmp
  have tmp := Lib.hid (show OwnInts w22 ((w9.alloc (.cells #[.slice As9 (n0).sets.length cs9, .slice Ak9 (n0).links.length ck9] 32)).heap.size) w13.heap.size sv13 l1 from (X1.out.ext hE (by omega)))
  clear X1
  have X1 := tmp
  clear tmp
  have tmp := Lib.hid (show OwnInts w22 (w13.heap.size) w15.heap.size gs15 (brokenV n0 l1) from (G.out.ext hE (by omega)))
  clear G
  have G := tmp
  clear tmp
  have hz24 : w20.heap.size ≤ w22.heap.size := hE.size
  replace hx : Ext w w22 := hx.trans hE
  clear hE
  have R22 := Lib.hid (show Ints w22 0 w22.heap.size _ l1 from ho22.row (fun hn => ⟨Nat.zero_le _, ho22.lt hn⟩))
  clear hx22 hg22 ho22
  go_wp2_with fail
  refine Calls.mono (laws_eqInt64S _ _ l1 _ (Ints.upAt X1.out.ints (by omega) (by repeat (first | exact Ext.refl _ | assumption | refine Ext.alloc ?_ _ | refine Ext.drew ?_ | refine Ext.drewN ?_ _ | refine Ext.setCell ?_ (by simp) _ | refine Ext.trans ?_ (by assumption)))) (R22.out.up (by repeat (first | exact Ext.refl _ | assumption | refine Ext.alloc ?_ _ | refine Ext.drew ?_ | refine Ext.drewN ?_ _ | refine Ext.setCell ?_ (by simp) _ | refine Ext.trans ?_ (by assumption))))) ?_
  rintro e w23 ⟨rfl, hx23⟩
  have hE : Ext w22 w23 := (by repeat (first | exact Ext.refl _ | assumption | refine Ext.alloc ?_ _ | refine Ext.drew ?_ | refine Ext.drewN ?_ _ | refine Ext.setCell ?_ (by simp) _ | refine Ext.trans ?_ (by assumption)))
  clear ba00 ba01 ba0g
  have ba0 := Hba0.out.ext hE
  clear Hba0
  have ba00 := ba0.at0
  have ba01 := ba0.at1
  have ba0g := ba0.1
  have Hba0 := Lib.hid ba0
  clear ba0
  clear bx00 bx01 bx0g
  have bx0 := Hbx0.out.ext hE
  clear Hbx0
  have bx00 := bx0.at0
  have bx01 := bx0.at1
  have bx0g := bx0.1
  have Hbx0 := Lib.hid bx0
  clear bx0
  have tmp := Lib.hid (show NetAt w23 0 w.heap.size s0 k0 n0 from (H0.out.ext hE (by omega)))
  clear H0
  have H0 := tmp
  clear tmp
  have tmp := Lib.hid (show Ints w23 0 w.heap.size (.slice A1 l1.length c1) l1 from (Row.ext H1.out hE (by omega)))
  clear H1
  have H1 := tmp
  clear tmp
  have tmp := Lib.hid (show OwnInts w23 (w5.heap.size) w7.heap.size gs7 (brokenV n0 l1) from (W.out.ext hE (by omega)))
  clear W
  have W := tmp
  clear tmp
  have tmp := Lib.hid (show OwnNet w23 (w7.heap.size) w9.heap.size (.agg #[.slice As9 (n0).sets.length cs9, .slice Ak9 (n0).links.length ck9]) n0 from (X0.out.ext' hE (by omega)))
  clear X0
  have X0 := tmp
  clear tmp
  have tmp := Lib.hid (show OwnInts w23 ((w9.alloc (.cells #[.slice As9 (n0).sets.length cs9, .slice Ak9 (n0).links.length ck9] 32)).heap.size) w13.heap.size sv13 l1 from (X1.out.ext hE (by omega)))
  clear X1
  have X1 := tmp
  clear tmp
  have tmp := Lib.hid (show OwnInts w23 (w13.heap.size) w15.heap.size gs15 (brokenV n0 l1) from (G.out.ext hE (by omega)))
  clear G
  have G := tmp
  clear tmp
  have hz25 : w22.heap.size ≤ w23.heap.size := hE.size
  replace hx : Ext w w23 := hx.trans hE
  clear hE
  clear hx23 R22
  go_wp2_with fail
  have hnc26 := netCells_le n0 Hsm0.out
  refine Calls.mono (laws_markNetwork _ _ _ _ n0 (1) _ X0.out (by omega) Hsm0.out (by omega) (by omega)) ?_
  rintro e w26 ⟨rfl, hO, hm26⟩
  clear hm26 X0
  clear ba00 ba01 ba0g
  have ba0 := Hba0.out.off hO (fun hh => by have h3 := hh.1; have h4 := hh.2; omega)
  clear Hba0
  have ba00 := ba0.at0
  have ba01 := ba0.at1
  have ba0g := ba0.1
  have Hba0 := Lib.hid ba0
  clear ba0
  clear bx00 bx01 bx0g
  have bx0 := Hbx0.out.off hO (fun hh => by have h3 := hh.1; have h4 := hh.2; omega)
  clear Hbx0
  have bx00 := bx0.at0
  have bx01 := bx0.at1
  have bx0g := bx0.1
  have Hbx0 := Lib.hid bx0
  clear bx0
  have tmp := Lib.hid (show NetAt w26 0 w.heap.size s0 k0 n0 from (H0.out.off hO (fun x h1 h2 hh => by have h3 := hh.1; have h4 := hh.2; omega) (by omega)))
  clear H0
  have H0 := tmp
  clear tmp
  have tmp := Lib.hid (show Ints w26 0 w.heap.size (.slice A1 l1.length c1) l1 from (Row.off H1.out hO (fun x h1 h2 hh => by have h3 := hh.1; have h4 := hh.2; omega) (by omega)))
  clear H1
  have H1 := tmp
  clear tmp
  have tmp := Lib.hid (show OwnInts w26 (w5.heap.size) w7.heap.size gs7 (brokenV n0 l1) from (W.out.off hO (fun x h1 h2 hh => by have h3 := hh.1; have h4 := hh.2; omega) (by omega)))
  clear W
  have W := tmp
  clear tmp
  have tmp := Lib.hid (show OwnInts w26 ((w9.alloc (.cells #[.slice As9 (n0).sets.length cs9, .slice Ak9 (n0).links.length ck9] 32)).heap.size) w13.heap.size sv13 l1 from (X1.out.off hO (fun x h1 h2 hh => by have h3 := hh.1; have h4 := hh.2; omega) (by omega)))
  clear X1
  have X1 := tmp
  clear tmp
  have tmp := Lib.hid (show OwnInts w26 (w13.heap.size) w15.heap.size gs15 (brokenV n0 l1) from (G.out.off hO (fun x h1 h2 hh => by have h3 := hh.1; have h4 := hh.2; omega) (by omega)))
  clear G
  have G := tmp
  clear tmp
  have hz27 : w23.heap.size ≤ w26.heap.size := hO.size
  replace hx : Ext w w26 := hx.off hO (fun x h1 hh => by have h3 := hh.1; omega)
  clear hO
  obtain ⟨m26, hmm26⟩ : ∃ m : Int, (1 : Int) + netCells n0 = m := ⟨_, rfl⟩
  rw [hmm26]
  go_wp2_with fail
  have hnc28 := Hsm1.out
  refine Calls.mono (markInts _ _ _ l1 (m26) _ X1.out Hsm1.out (by omega) (by omega)) ?_
  rintro e w28 ⟨rfl, hO, hm28⟩
  clear hm28 X1
  clear ba00 ba01 ba0g
  have ba0 := Hba0.out.off hO (fun hh => by have h3 := hh.1; have h4 := hh.2; omega)
  clear Hba0
  have ba00 := ba0.at0
  have ba01 := ba0.at1
  have ba0g := ba0.1
  have Hba0 := Lib.hid ba0
  clear ba0
  clear bx00 bx01 bx0g
  have bx0 := Hbx0.out.off hO (fun hh => by have h3 := hh.1; have h4 := hh.2; omega)
  clear Hbx0
  have bx00 := bx0.at0
  have bx01 := bx0.at1
  have bx0g := bx0.1
  have Hbx0 := Lib.hid bx0
  clear bx0
  have tmp := Lib.hid (show NetAt w28 0 w.heap.size s0 k0 n0 from (H0.out.off hO (fun x h1 h2 hh => by have h3 := hh.1; have h4 := hh.2; omega) (by omega)))
  clear H0
  have H0 := tmp
  clear tmp
  have tmp := Lib.hid (show Ints w28 0 w.heap.size (.slice A1 l1.length c1) l1 from (Row.off H1.out hO (fun x h1 h2 hh => by have h3 := hh.1; have h4 := hh.2; omega) (by omega)))
  clear H1
  have H1 := tmp
  clear tmp
  have tmp := Lib.hid (show OwnInts w28 (w5.heap.size) w7.heap.size gs7 (brokenV n0 l1) from (W.out.off hO (fun x h1 h2 hh => by have h3 := hh.1; have h4 := hh.2; omega) (by omega)))
  clear W
  have W := tmp
  clear tmp
  have tmp := Lib.hid (show OwnInts w28 (w13.heap.size) w15.heap.size gs15 (brokenV n0 l1) from (G.out.off hO (fun x h1 h2 hh => by have h3 := hh.1; have h4 := hh.2; omega) (by omega)))
  clear G
  have G := tmp
  clear tmp
  have hz29 : w26.heap.size ≤ w28.heap.size := hO.size
  replace hx : Ext w w28 := hx.off hO (fun x h1 hh => by have h3 := hh.1; omega)
  clear hO
  obtain ⟨m28, hmm28⟩ : ∃ m : Int, (m26 : Int) + l1.length = m := ⟨_, rfl⟩
  rw [hmm28]
  have hmn : decide (m28 < 0) = false := decide_eq_false (by omega)
  go_wp2_with fail
  refine Calls.mono (laws_eqInt64S _ _ (brokenV n0 l1) _ (Ints.upAt G.out.ints (by omega) (by repeat (first | exact Ext.refl _ | assumption | refine Ext.alloc ?_ _ | refine Ext.drew ?_ | refine Ext.drewN ?_ _ | refine Ext.setCell ?_ (by simp) _ | refine Ext.trans ?_ (by assumption)))) (Ints.upAt W.out.ints (by omega) (by repeat (first | exact Ext.refl _ | assumption | refine Ext.alloc ?_ _ | refine Ext.drew ?_ | refine Ext.drewN ?_ _ | refine Ext.setCell ?_ (by simp) _ | refine Ext.trans ?_ (by assumption))))) ?_
  rintro e w30 ⟨rfl, hx30⟩
  have hE : Ext w28 w30 := (by repeat (first | exact Ext.refl _ | assumption | refine Ext.alloc ?_ _ | refine Ext.drew ?_ | refine Ext.drewN ?_ _ | refine Ext.setCell ?_ (by simp) _ | refine Ext.trans ?_ (by assumption)))
  clear ba00 ba01 ba0g
  have ba0 := Hba0.out.ext hE
  clear Hba0
  have ba00 := ba0.at0
  have ba01 := ba0.at1
  have ba0g := ba0.1
  have Hba0 := Lib.hid ba0
  clear ba0
  clear bx00 bx01 bx0g
  have bx0 := Hbx0.out.ext hE
  clear Hbx0
  have bx00 := bx0.at0
  have bx01 := bx0.at1
  have bx0g := bx0.1
  have Hbx0 := Lib.hid bx0
  clear bx0
  have tmp := Lib.hid (show NetAt w30 0 w.heap.size s0 k0 n0 from (H0.out.ext hE (by omega)))
  clear H0
  have H0 := tmp
  clear tmp
  have tmp := Lib.hid (show Ints w30 0 w.heap.size (.slice A1 l1.length c1) l1 from (Row.ext H1.out hE (by omega)))
  clear H1
  have H1 := tmp
  clear tmp
  have tmp := Lib.hid (show OwnInts w30 (w5.heap.size) w7.heap.size gs7 (brokenV n0 l1) from (W.out.ext hE (by omega)))
  clear W
  have W := tmp
  clear tmp
  have tmp := Lib.hid (show OwnInts w30 (w13.heap.size) w15.heap.size gs15 (brokenV n0 l1) from (G.out.ext hE (by omega)))
  clear G
  have G := tmp
  clear tmp
  have hz31 : w28.heap.size ≤ w30.heap.size := hE.size
  replace hx : Ext w w30 := hx.trans hE
  clear hE
  clear hx30
  go_wp2_with fail
  have HsR := Lib.hid (brokenV_small n0 l1 Hsm0.out)
  have hnc32 := HsR.out
  refine Calls.mono (markInts _ _ _ (brokenV n0 l1) 1 _ G.out HsR.out (by omega) (by omega)) ?_
  rintro e w32 ⟨rfl, hO, hm32⟩
  clear G
  clear ba00 ba01 ba0g
  have ba0 := Hba0.out.off hO (fun hh => by have h3 := hh.1; have h4 := hh.2; omega)
  clear Hba0
  have ba00 := ba0.at0
  have ba01 := ba0.at1
  have ba0g := ba0.1
  have Hba0 := Lib.hid ba0
  clear ba0
  clear bx00 bx01 bx0g
  have bx0 := Hbx0.out.off hO (fun hh => by have h3 := hh.1; have h4 := hh.2; omega)
  clear Hbx0
  have bx00 := bx0.at0
  have bx01 := bx0.at1
  have bx0g := bx0.1
  have Hbx0 := Lib.hid bx0
  clear bx0
  have tmp := Lib.hid (show NetAt w32 0 w.heap.size s0 k0 n0 from (H0.out.off hO (fun x h1 h2 hh => by have h3 := hh.1; have h4 := hh.2; omega) (by omega)))
  clear H0
  have H0 := tmp
  clear tmp
  have tmp := Lib.hid (show Ints w32 0 w.heap.size (.slice A1 l1.length c1) l1 from (Row.off H1.out hO (fun x h1 h2 hh => by have h3 := hh.1; have h4 := hh.2; omega) (by omega)))
  clear H1
  have H1 := tmp
  clear tmp
  have tmp := Lib.hid (show OwnInts w32 (w5.heap.size) w7.heap.size gs7 (brokenV n0 l1) from (W.out.off hO (fun x h1 h2 hh => by have h3 := hh.1; have h4 := hh.2; omega) (by omega)))
  clear W
  have W := tmp
  clear tmp
  have hz33 : w30.heap.size ≤ w32.heap.size := hO.size
  replace hx : Ext w w32 := hx.off hO (fun x h1 hh => by have h3 := hh.1; omega)
  clear hO
  have G := Lib.hid (show MarkedInts w32 (w13.heap.size) (w15.heap.size) (gs15) (brokenV n0 l1) 1 from hm32)
  clear hm32
  obtain ⟨m, hmm⟩ : ∃ m : Int, (1 : Int) + (brokenV n0 l1).length = m := ⟨_, rfl⟩
  rw [hmm]
  have hmz : decide (m < 0) = false := decide_eq_false (by omega)
  have hme : (m != m) = false := bne_self_eq_false m
  go_wp2_with fail
  refine Calls.mono (laws_heldInt64S _ _ _ (brokenV n0 l1).length 1 _ G.out (by omega) HsR.out (by omega) (by omega)) ?_
  rintro e w34 ⟨rfl, hx34⟩
  have hE : Ext w32 w34 := (by repeat (first | exact Ext.refl _ | assumption | refine Ext.alloc ?_ _ | refine Ext.drew ?_ | refine Ext.drewN ?_ _ | refine Ext.setCell ?_ (by simp) _ | refine Ext.trans ?_ (by assumption)))
  clear ba00 ba01 ba0g
  have ba0 := Hba0.out.ext hE
  clear Hba0
  have ba00 := ba0.at0
  have ba01 := ba0.at1
  have ba0g := ba0.1
  have Hba0 := Lib.hid ba0
  clear ba0
  clear bx00 bx01 bx0g
  have bx0 := Hbx0.out.ext hE
  clear Hbx0
  have bx00 := bx0.at0
  have bx01 := bx0.at1
  have bx0g := bx0.1
  have Hbx0 := Lib.hid bx0
  clear bx0
  have tmp := Lib.hid (show NetAt w34 0 w.heap.size s0 k0 n0 from (H0.out.ext hE (by omega)))
  clear H0
  have H0 := tmp
  clear tmp
  have tmp := Lib.hid (show Ints w34 0 w.heap.size (.slice A1 l1.length c1) l1 from (Row.ext H1.out hE (by omega)))
  clear H1
  have H1 := tmp
  clear tmp
  have tmp := Lib.hid (show OwnInts w34 (w5.heap.size) w7.heap.size gs7 (brokenV n0 l1) from (W.out.ext hE (by omega)))
  clear W
  have W := tmp
  clear tmp
  have tmp := Lib.hid (show MarkedInts w34 (w13.heap.size) (w15.heap.size) (gs15) (brokenV n0 l1) 1 from (Row.ext G.out hE (by omega)))
  clear G
  have G := tmp
  clear tmp
  have hz35 : w32.heap.size ≤ w34.heap.size := hE.size
  replace hx : Ext w w34 := hx.trans hE
  clear hE
  clear hx34
  rw [hmm]
  go_wp2_with fail
  refine Calls.mono (laws_toNetwork s0 k0 n0 _ (H0.out.up (by omega) (by repeat (first | exact Ext.refl _ | assumption | refine Ext.alloc ?_ _ | refine Ext.drew ?_ | refine Ext.drewN ?_ _ | refine Ext.setCell ?_ (by simp) _ | refine Ext.trans ?_ (by assumption)))) Hsm0.out) ?_
  rintro e w36 ⟨sv36, kv36, rfl, hx36, ho36⟩
  have hE : Ext w34 w36 := (by repeat (first | exact Ext.refl _ | assumption | refine Ext.alloc ?_ _ | refine Ext.drew ?_ | refine Ext.drewN ?_ _ | refine Ext.setCell ?_ (by simp) _ | refine Ext.trans ?_ (by assumption)))
  clear ba00 ba01 ba0g
  have ba0 := Hba0.out.ext hE
  clear Hba0
  have ba00 := ba0.at0
  have ba01 := ba0.at1
  have ba0g := ba0.1
  have Hba0 := Lib.hid ba0
  clear ba0
  clear bx00 bx01 bx0g
  have bx0 := Hbx0.out.ext hE
  clear Hbx0
  have bx00 := bx0.at0
  have bx01 := bx0.at1
  have bx0g := bx0.1
  have Hbx0 := Lib.hid bx0
  clear bx0
  have tmp := Lib.hid (show NetAt w36 0 w.heap.size s0 k0 n0 from (H0.out.ext hE (by omega)))
  clear H0
  have H0 := tmp
  clear tmp
  have tmp := Lib.hid (show Ints w36 0 w.heap.size (.slice A1 l1.length c1) l1 from (Row.ext H1.out hE (by omega)))
  clear H1
  have H1 := tmp
  clear tmp
  have tmp := Lib.hid (show OwnInts w36 (w5.heap.size) w7.heap.size gs7 (brokenV n0 l1) from (W.out.ext hE (by omega)))
  clear W
  have W := tmp
  clear tmp
  have tmp := Lib.hid (show MarkedInts w36 (w13.heap.size) (w15.heap.size) (gs15) (brokenV n0 l1) 1 from (Row.ext G.out hE (by omega)))
  clear G
  have G := tmp
  clear tmp
  have hz37 : w34.heap.size ≤ w36.heap.size := hE.size
  replace hx : Ext w w36 := hx.trans hE
  clear hE
  have R36 := Lib.hid (show NetAt w36 0 w36.heap.size sv36 kv36 n0 from ho36.net.netIn)
  clear ho36
  clear hx36
  go_wp2_with fail
  refine Calls.mono (laws_toInt64S _ l1 0 _ _ (H1.out.upAt (by omega) (by repeat (first | exact Ext.refl _ | assumption | refine Ext.alloc ?_ _ | refine Ext.drew ?_ | refine Ext.drewN ?_ _ | refine Ext.setCell ?_ (by simp) _ | refine Ext.trans ?_ (by assumption)))) (Nat.le_refl _) Hsm1.out) ?_
  rintro e w38 ⟨sv38, gv38, rfl, hx38, hg38, ho38⟩
  have hE : Ext w36 w38 := (by repeat (first | exact Ext.refl _ | assumption | refine Ext.alloc ?_ _ | refine Ext.drew ?_ | refine Ext.drewN ?_ _ | refine Ext.setCell ?_ (by simp) _ | refine Ext.trans ?_ (by assumption)))
  clear ba00 ba01 ba0g
  have ba0 := Hba0.out.ext hE
  clear Hba0
  have ba00 := ba0.at0
  have ba01 := ba0.at1
  have ba0g := ba0.1
  have Hba0 := Lib.hid ba0
  clear ba0
  clear bx00 bx01 bx0g
  have bx0 := Hbx0.out.ext hE
  clear Hbx0
  have bx00 := bx0.at0
  have bx01 := bx0.at1
  have bx0g := bx0.1
  have Hbx0 := Lib.hid bx0
  clear bx0
  have tmp := Lib.hid (show NetAt w38 0 w.heap.size s0 k0 n0 from (H0.out.ext hE (by omega)))
  clear H0
  have H0 := tmp
  clear tmp
  have tmp := Lib.hid (show Ints w38 0 w.heap.size (.slice A1 l1.length c1) l1 from (Row.ext H1.out hE (by omega)))
  clear H1
  have H1 := tmp
  clear tmp
  have tmp := Lib.hid (show OwnInts w38 (w5.heap.size) w7.heap.size gs7 (brokenV n0 l1) from (W.out.ext hE (by omega)))
  clear W
  have W := tmp
  clear tmp
  have tmp := Lib.hid (show MarkedInts w38 (w13.heap.size) (w15.heap.size) (gs15) (brokenV n0 l1) 1 from (Row.ext G.out hE (by omega)))
  clear G
  have G := tmp
  clear tmp
  have tmp := Lib.hid (show NetAt w38 0 w36.heap.size sv36 kv36 n0 from (R36.out.ext hE (by omega)))
  clear R36
  have R36 := tmp
  clear tmp
  have hz39 : w36.heap.size ≤ w38.heap.size := hE.size
  replace hx : Ext w w38 := hx.trans hE
  clear hE
  have R38 := Lib.hid (show Ints w38 0 w38.heap.size sv38 l1 from ho38.row (fun hn => ⟨Nat.zero_le _, ho38.lt hn⟩))
  clear ho38 hg38
  clear hx38
  go_wp2_with fail
  refine Calls.mono (impl_BrokenLinks sv36 kv36 sv38 n0 l1  _ (R36.out.up (by omega) (by repeat (first | exact Ext.refl _ | assumption | refine Ext.alloc ?_ _ | refine Ext.drew ?_ | refine Ext.drewN ?_ _ | refine Ext.setCell ?_ (by simp) _ | refine Ext.trans ?_ (by assumption)))) (R38.out.upAt (by omega) (by repeat (first | exact Ext.refl _ | assumption | refine Ext.alloc ?_ _ | refine Ext.drew ?_ | refine Ext.drewN ?_ _ | refine Ext.setCell ?_ (by simp) _ | refine Ext.trans ?_ (by assumption))))) ?_
  rintro e w40 ⟨gs40, gk40, rfl, hx40, hgl40, hgo40⟩
  have hE : Ext w38 w40 := (by repeat (first | exact Ext.refl _ | assumption | refine Ext.alloc ?_ _ | refine Ext.drew ?_ | refine Ext.drewN ?_ _ | refine Ext.setCell ?_ (by simp) _ | refine Ext.trans ?_ (by assumption)))
  clear ba00 ba01 ba0g
  have ba0 := Hba0.out.ext hE
  clear Hba0
  have ba00 := ba0.at0
  have ba01 := ba0.at1
  have ba0g := ba0.1
  have Hba0 := Lib.hid ba0
  clear ba0
  clear bx00 bx01 bx0g
  have bx0 := Hbx0.out.ext hE
  clear Hbx0
  have bx00 := bx0.at0
  have bx01 := bx0.at1
  have bx0g := bx0.1
  have Hbx0 := Lib.hid bx0
  clear bx0
  have tmp := Lib.hid (show NetAt w40 0 w.heap.size s0 k0 n0 from (H0.out.ext hE (by omega)))
  clear H0
  have H0 := tmp
  clear tmp
  have tmp := Lib.hid (show Ints w40 0 w.heap.size (.slice A1 l1.length c1) l1 from (Row.ext H1.out hE (by omega)))
  clear H1
  have H1 := tmp
  clear tmp
  have tmp := Lib.hid (show OwnInts w40 (w5.heap.size) w7.heap.size gs7 (brokenV n0 l1) from (W.out.ext hE (by omega)))
  clear W
  have W := tmp
  clear tmp
  have tmp := Lib.hid (show MarkedInts w40 (w13.heap.size) (w15.heap.size) (gs15) (brokenV n0 l1) 1 from (Row.ext G.out hE (by omega)))
  clear G
  have G := tmp
  clear tmp
  have tmp := Lib.hid (show NetAt w40 0 w36.heap.size sv36 kv36 n0 from (R36.out.ext hE (by omega)))
  clear R36
  have R36 := tmp
  clear tmp
  have tmp := Lib.hid (show Ints w40 0 w38.heap.size sv38 l1 from (Row.ext R38.out hE (by omega)))
  clear R38
  have R38 := tmp
  clear tmp
  have hz41 : w38.heap.size ≤ w40.heap.size := hE.size
  replace hx : Ext w w40 := hx.trans hE
  clear hE
  clear R36
  clear R38
  have Hh := Lib.hid (show OwnInts w40 (w38.heap.size) w40.heap.size gs40 (brokenV n0 l1) from ⟨gk40, fun hn => ⟨by have := hgl40 hn; omega, hgo40.lt hn⟩, hgo40⟩)
  clear hgl40
  clear hgo40
  clear hx40
  go_wp2_with fail
  refine Calls.mono (laws_eqInt64S _ _ (brokenV n0 l1) _ (Ints.upAt Hh.out.ints (by omega) (by repeat (first | exact Ext.refl _ | assumption | refine Ext.alloc ?_ _ | refine Ext.drew ?_ | refine Ext.drewN ?_ _ | refine Ext.setCell ?_ (by simp) _ | refine Ext.trans ?_ (by assumption)))) (Ints.upAt W.out.ints (by omega) (by repeat (first | exact Ext.refl _ | assumption | refine Ext.alloc ?_ _ | refine Ext.drew ?_ | refine Ext.drewN ?_ _ | refine Ext.setCell ?_ (by simp) _ | refine Ext.trans ?_ (by assumption))))) ?_
  rintro e w42 ⟨rfl, hx42⟩
  have hE : Ext w40 w42 := (by repeat (first | exact Ext.refl _ | assumption | refine Ext.alloc ?_ _ | refine Ext.drew ?_ | refine Ext.drewN ?_ _ | refine Ext.setCell ?_ (by simp) _ | refine Ext.trans ?_ (by assumption)))
  clear ba00 ba01 ba0g
  have ba0 := Hba0.out.ext hE
  clear Hba0
  have ba00 := ba0.at0
  have ba01 := ba0.at1
  have ba0g := ba0.1
  have Hba0 := Lib.hid ba0
  clear ba0
  clear bx00 bx01 bx0g
  have bx0 := Hbx0.out.ext hE
  clear Hbx0
  have bx00 := bx0.at0
  have bx01 := bx0.at1
  have bx0g := bx0.1
  have Hbx0 := Lib.hid bx0
  clear bx0
  have tmp := Lib.hid (show NetAt w42 0 w.heap.size s0 k0 n0 from (H0.out.ext hE (by omega)))
  clear H0
  have H0 := tmp
  clear tmp
  have tmp := Lib.hid (show Ints w42 0 w.heap.size (.slice A1 l1.length c1) l1 from (Row.ext H1.out hE (by omega)))
  clear H1
  have H1 := tmp
  clear tmp
  have tmp := Lib.hid (show OwnInts w42 (w5.heap.size) w7.heap.size gs7 (brokenV n0 l1) from (W.out.ext hE (by omega)))
  clear W
  have W := tmp
  clear tmp
  have tmp := Lib.hid (show MarkedInts w42 (w13.heap.size) (w15.heap.size) (gs15) (brokenV n0 l1) 1 from (Row.ext G.out hE (by omega)))
  clear G
  have G := tmp
  clear tmp
  have tmp := Lib.hid (show OwnInts w42 (w38.heap.size) w40.heap.size gs40 (brokenV n0 l1) from (Hh.out.ext hE (by omega)))
  clear Hh
  have Hh := tmp
  clear tmp
  have hz43 : w40.heap.size ≤ w42.heap.size := hE.size
  replace hx : Ext w w42 := hx.trans hE
  clear hE
  clear hx42
  go_wp2_with fail
  refine Calls.mono (laws_heldInt64S _ _ _ (brokenV n0 l1).length 1 _ G.out (by omega) HsR.out (by omega) (by omega)) ?_
  rintro e w44 ⟨rfl, hx44⟩
  have hE : Ext w42 w44 := (by repeat (first | exact Ext.refl _ | assumption | refine Ext.alloc ?_ _ | refine Ext.drew ?_ | refine Ext.drewN ?_ _ | refine Ext.setCell ?_ (by simp) _ | refine Ext.trans ?_ (by assumption)))
  clear ba00 ba01 ba0g
  have ba0 := Hba0.out.ext hE
  clear Hba0
  have ba00 := ba0.at0
  have ba01 := ba0.at1
  have ba0g := ba0.1
  have Hba0 := Lib.hid ba0
  clear ba0
  clear bx00 bx01 bx0g
  have bx0 := Hbx0.out.ext hE
  clear Hbx0
  have bx00 := bx0.at0
  have bx01 := bx0.at1
  have bx0g := bx0.1
  have Hbx0 := Lib.hid bx0
  clear bx0
  have tmp := Lib.hid (show NetAt w44 0 w.heap.size s0 k0 n0 from (H0.out.ext hE (by omega)))
  clear H0
  have H0 := tmp
  clear tmp
  have tmp := Lib.hid (show Ints w44 0 w.heap.size (.slice A1 l1.length c1) l1 from (Row.ext H1.out hE (by omega)))
  clear H1
  have H1 := tmp
  clear tmp
  have tmp := Lib.hid (show OwnInts w44 (w5.heap.size) w7.heap.size gs7 (brokenV n0 l1) from (W.out.ext hE (by omega)))
  clear W
  have W := tmp
  clear tmp
  have tmp := Lib.hid (show MarkedInts w44 (w13.heap.size) (w15.heap.size) (gs15) (brokenV n0 l1) 1 from (Row.ext G.out hE (by omega)))
  clear G
  have G := tmp
  clear tmp
  have tmp := Lib.hid (show OwnInts w44 (w38.heap.size) w40.heap.size gs40 (brokenV n0 l1) from (Hh.out.ext hE (by omega)))
  clear Hh
  have Hh := tmp
  clear tmp
  have hz45 : w42.heap.size ≤ w44.heap.size := hE.size
  replace hx : Ext w w44 := hx.trans hE
  clear hE
  clear hx44
  rw [hmm]
  go_wp2_with fail
  go_ret
  exact ⟨rfl, hx⟩
end Go.Proofs.Ytkpoelgaomgjlaa
