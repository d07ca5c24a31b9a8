/- Texts merged: a claim holds at most sixty files. -/
import Derived.Test.YtfajmlkiidnhlaaZ41
import Derived.Test.YtfajmlkiidnhlaaZ05
import Derived.Deep.RegionHeld3
/- The law FnExactSolvedNetwork, walked out of the contracts of the program's SolvedNetwork and the reference's. -/
namespace Go.Proofs.Ytfajmlkiidnhlaa
set_option linter.unusedVariables false
set_option linter.unusedSimpArgs false
open Go.RowKit
attribute [local go_sem] cell_onto

set_option maxHeartbeats 4000000 in
theorem law_SolvedNetwork (s0 k0 : Value) (n0 : Net) (w : World) (h0 : NetIn w s0 k0 n0) :
    Calls Try.prog 9 #[.agg #[s0, k0]] w (RetX (.bool true) w) := by
  have H0 := Lib.hid (show NetAt w 0 w.heap.size s0 k0 n0 from h0)
  clear h0
  have hx := Ext.refl w
  go_enter Try.func9, Try.ntmps9
  go_wp2_with fail
  refine Calls.mono (laws_szNetwork s0 k0 n0 1048576 _ (by omega) (by omega) (H0.out.up (by omega) (by repeat (first | exact Ext.refl _ | assumption | refine Ext.alloc ?_ _ | refine Ext.drew ?_ | refine Ext.drewN ?_ _ | refine Ext.setCell ?_ (by first | (simp; done) | (simp; omega) | omega) _ | refine Ext.trans ?_ (by assumption))))) ?_
  rintro e w1 ⟨r1, rfl, hx1, hra1, hrb1, hrc1⟩
  have hE : Ext w w1 := (by repeat (first | exact Ext.refl _ | assumption | refine Ext.alloc ?_ _ | refine Ext.drew ?_ | refine Ext.drewN ?_ _ | refine Ext.setCell ?_ (by first | (simp; done) | (simp; omega) | omega) _ | refine Ext.trans ?_ (by assumption)))
  have ba0 := (show Boxed w1 (w.heap.size) [s0, k0] from by have hb' := ((Boxed.new w [s0, k0] 76)).ext hx1; exact hb'); have ba00 := ba0.at0; have ba01 := ba0.at1; have ba0g := ba0.1; have Hba0 := Lib.hid ba0; clear ba0
  have tmp := Lib.hid (show NetAt w1 0 w.heap.size s0 k0 n0 from (H0.out.ext hE (by omega)))
  clear H0
  have H0 := tmp
  clear tmp
  have hz2 : w.heap.size ≤ w1.heap.size := hE.size
  replace hx : Ext w w1 := hx.trans hE
  clear hE
  have hq0 : w.heap.size < w1.heap.size := ba0g
  have Hr0 := Lib.hid hrc1
  clear hrc1 hx1
  by_cases hneg1 : r1 < 0
  case pos =>
    go_wp2_with fail
    go_ret
    exact ⟨rfl, (by repeat (first | exact Ext.refl _ | assumption | refine Ext.alloc ?_ _ | refine Ext.drew ?_ | refine Ext.drewN ?_ _ | refine Ext.setCell ?_ (by first | (simp; done) | (simp; omega) | omega) _ | refine Ext.trans ?_ (by assumption)))⟩
  have Hsm0 := Lib.hid (Hr0.out (by omega))
  go_wp2_with fail
  refine Calls.mono (laws_toNetwork s0 k0 n0 _ (H0.out.up (by omega) (by repeat (first | exact Ext.refl _ | assumption | refine Ext.alloc ?_ _ | refine Ext.drew ?_ | refine Ext.drewN ?_ _ | refine Ext.setCell ?_ (by first | (simp; done) | (simp; omega) | omega) _ | refine Ext.trans ?_ (by assumption)))) Hsm0.out) ?_
  rintro e w3 ⟨sv3, kv3, rfl, hx3, ho3⟩
  have hE : Ext w1 w3 := (by repeat (first | exact Ext.refl _ | assumption | refine Ext.alloc ?_ _ | refine Ext.drew ?_ | refine Ext.drewN ?_ _ | refine Ext.setCell ?_ (by first | (simp; done) | (simp; omega) | omega) _ | refine Ext.trans ?_ (by assumption)))
  clear ba00 ba01 ba0g
  have ba0 := Hba0.out.ext hE
  clear Hba0
  have ba00 := ba0.at0
  have ba01 := ba0.at1
  have ba0g := ba0.1
  have Hba0 := Lib.hid ba0
  clear ba0
  have tmp := Lib.hid (show NetAt w3 0 w.heap.size s0 k0 n0 from (H0.out.ext hE (by omega)))
  clear H0
  have H0 := tmp
  clear tmp
  have hz4 : w1.heap.size ≤ w3.heap.size := hE.size
  replace hx : Ext w w3 := hx.trans hE
  clear hE
  have R3 := Lib.hid (show NetAt w3 0 w3.heap.size sv3 kv3 n0 from ho3.net.netIn)
  clear ho3
  clear hx3
  go_wp2_with fail
  refine Calls.mono (spec_SolvedNetwork sv3 kv3 n0  _ (R3.out.up (by omega) (by repeat (first | exact Ext.refl _ | assumption | refine Ext.alloc ?_ _ | refine Ext.drew ?_ | refine Ext.drewN ?_ _ | refine Ext.setCell ?_ (by first | (simp; done) | (simp; omega) | omega) _ | refine Ext.trans ?_ (by assumption))))) ?_
  rintro e w5 ⟨gs5, gk5, rfl, hx5, hgo5⟩; obtain ⟨As5, cs5, rfl, _, _⟩ := hgo5.at_.1.len; obtain ⟨Ak5, ck5, rfl, _, _⟩ := hgo5.at_.2.len
  have hE : Ext w3 w5 := (by repeat (first | exact Ext.refl _ | assumption | refine Ext.alloc ?_ _ | refine Ext.drew ?_ | refine Ext.drewN ?_ _ | refine Ext.setCell ?_ (by first | (simp; done) | (simp; omega) | omega) _ | refine Ext.trans ?_ (by assumption)))
  clear ba00 ba01 ba0g
  have ba0 := Hba0.out.ext hE
  clear Hba0
  have ba00 := ba0.at0
  have ba01 := ba0.at1
  have ba0g := ba0.1
  have Hba0 := Lib.hid ba0
  clear ba0
  have tmp := Lib.hid (show NetAt w5 0 w.heap.size s0 k0 n0 from (H0.out.ext hE (by omega)))
  clear H0
  have H0 := tmp
  clear tmp
  have tmp := Lib.hid (show NetAt w5 0 w3.heap.size sv3 kv3 n0 from (R3.out.ext hE (by omega)))
  clear R3
  have R3 := tmp
  clear tmp
  have hz6 : w3.heap.size ≤ w5.heap.size := hE.size
  replace hx : Ext w w5 := hx.trans hE
  clear hE
  clear R3
  have W := Lib.hid (show OwnNet w5 (w3.heap.size) w5.heap.size (.agg #[.slice As5 (svV n0).sets.length cs5, .slice Ak5 (svV n0).links.length ck5]) (svV n0) from hgo5)
  clear hgo5
  clear hx5
  go_wp2_with fail
  have hE : Ext w5 (w5.alloc (.cells #[.slice As5 (svV n0).sets.length cs5, .slice Ak5 (svV n0).links.length ck5] 27)) := (by repeat (first | exact Ext.refl _ | assumption | refine Ext.alloc ?_ _ | refine Ext.drew ?_ | refine Ext.drewN ?_ _ | refine Ext.setCell ?_ (by first | (simp; done) | (simp; omega) | omega) _ | refine Ext.trans ?_ (by assumption)))
  clear ba00 ba01 ba0g
  have ba0 := Hba0.out.ext hE
  clear Hba0
  have ba00 := ba0.at0
  have ba01 := ba0.at1
  have ba0g := ba0.1
  have Hba0 := Lib.hid ba0
  clear ba0
  have tmp := Lib.hid (show NetAt (w5.alloc (.cells #[.slice As5 (svV n0).sets.length cs5, .slice Ak5 (svV n0).links.length ck5] 27)) 0 w.heap.size s0 k0 n0 from (H0.out.ext hE (by omega)))
  clear H0
  have H0 := tmp
  clear tmp
  have tmp := Lib.hid (show OwnNet (w5.alloc (.cells #[.slice As5 (svV n0).sets.length cs5, .slice Ak5 (svV n0).links.length ck5] 27)) (w3.heap.size) w5.heap.size (.agg #[.slice As5 (svV n0).sets.length cs5, .slice Ak5 (svV n0).links.length ck5]) (svV n0) from (W.out.ext' hE (by omega)))
  clear W
  have W := tmp
  clear tmp
  have hz7 : w5.heap.size ≤ (w5.alloc (.cells #[.slice As5 (svV n0).sets.length cs5, .slice Ak5 (svV n0).links.length ck5] 27)).heap.size := hE.size
  replace hx : Ext w (w5.alloc (.cells #[.slice As5 (svV n0).sets.length cs5, .slice Ak5 (svV n0).links.length ck5] 27)) := hx.trans hE
  clear hE
  have Hbw := Lib.hid (Boxed.new w5 [.slice As5 (svV n0).sets.length cs5, .slice Ak5 (svV n0).links.length ck5] 27)
  have bw := Hbw.out
  clear Hbw
  have bw0 := bw.at0
  have bw1 := bw.at1
  have bwg := bw.1
  have Hbw := Lib.hid bw
  clear bw
  have hzb8 : (w5.alloc (.cells #[.slice As5 (svV n0).sets.length cs5, .slice Ak5 (svV n0).links.length ck5] 27)).heap.size = w5.heap.size + 1 := World.size_alloc _ _
  refine Calls.mono (laws_toNetwork s0 k0 n0 _ (H0.out.up (by omega) (by repeat (first | exact Ext.refl _ | assumption | refine Ext.alloc ?_ _ | refine Ext.drew ?_ | refine Ext.drewN ?_ _ | refine Ext.setCell ?_ (by first | (simp; done) | (simp; omega) | omega) _ | refine Ext.trans ?_ (by assumption)))) Hsm0.out) ?_
  rintro e w9 ⟨sv9, kv9, rfl, hx9, ho9⟩
  have hE : Ext (w5.alloc (.cells #[.slice As5 (svV n0).sets.length cs5, .slice Ak5 (svV n0).links.length ck5] 27)) w9 := (by repeat (first | exact Ext.refl _ | assumption | refine Ext.alloc ?_ _ | refine Ext.drew ?_ | refine Ext.drewN ?_ _ | refine Ext.setCell ?_ (by first | (simp; done) | (simp; omega) | omega) _ | refine Ext.trans ?_ (by assumption)))
  clear ba00 ba01 ba0g
  have ba0 := Hba0.out.ext hE
  clear Hba0
  have ba00 := ba0.at0
  have ba01 := ba0.at1
  have ba0g := ba0.1
  have Hba0 := Lib.hid ba0
  clear ba0
  clear bw0 bw1 bwg
  have bw := Hbw.out.ext hE
  clear Hbw
  have bw0 := bw.at0
  have bw1 := bw.at1
  have bwg := bw.1
  have Hbw := Lib.hid bw
  clear bw
  have tmp := Lib.hid (show NetAt w9 0 w.heap.size s0 k0 n0 from (H0.out.ext hE (by omega)))
  clear H0
  have H0 := tmp
  clear tmp
  have tmp := Lib.hid (show OwnNet w9 (w3.heap.size) w5.heap.size (.agg #[.slice As5 (svV n0).sets.length cs5, .slice Ak5 (svV n0).links.length ck5]) (svV n0) from (W.out.ext' hE (by omega)))
  clear W
  have W := tmp
  clear tmp
  have hz10 : (w5.alloc (.cells #[.slice As5 (svV n0).sets.length cs5, .slice Ak5 (svV n0).links.length ck5] 27)).heap.size ≤ w9.heap.size := hE.size
  replace hx : Ext w w9 := hx.trans hE
  clear hE
  obtain ⟨As9, cs9, rfl, _, _⟩ := ho9.at_.1.len
  obtain ⟨Ak9, ck9, rfl, _, _⟩ := ho9.at_.2.len
  have X0 := Lib.hid (show OwnNet w9 ((w5.alloc (.cells #[.slice As5 (svV n0).sets.length cs5, .slice Ak5 (svV n0).links.length ck5] 27)).heap.size) w9.heap.size (.agg #[.slice As9 (n0).sets.length cs9, .slice Ak9 (n0).links.length ck9]) n0 from ho9)
  clear ho9
  clear hx9
  go_wp2_with fail
  have hE : Ext w9 (w9.alloc (.cells #[.slice As9 (n0).sets.length cs9, .slice Ak9 (n0).links.length ck9] 27)) := (by repeat (first | exact Ext.refl _ | assumption | refine Ext.alloc ?_ _ | refine Ext.drew ?_ | refine Ext.drewN ?_ _ | refine Ext.setCell ?_ (by first | (simp; done) | (simp; omega) | omega) _ | refine Ext.trans ?_ (by assumption)))
  clear ba00 ba01 ba0g
  have ba0 := Hba0.out.ext hE
  clear Hba0
  have ba00 := ba0.at0
  have ba01 := ba0.at1
  have ba0g := ba0.1
  have Hba0 := Lib.hid ba0
  clear ba0
  clear bw0 bw1 bwg
  have bw := Hbw.out.ext hE
  clear Hbw
  have bw0 := bw.at0
  have bw1 := bw.at1
  have bwg := bw.1
  have Hbw := Lib.hid bw
  clear bw
  have tmp := Lib.hid (show NetAt (w9.alloc (.cells #[.slice As9 (n0).sets.length cs9, .slice Ak9 (n0).links.length ck9] 27)) 0 w.heap.size s0 k0 n0 from (H0.out.ext hE (by omega)))
  clear H0
  have H0 := tmp
  clear tmp
  have tmp := Lib.hid (show OwnNet (w9.alloc (.cells #[.slice As9 (n0).sets.length cs9, .slice Ak9 (n0).links.length ck9] 27)) (w3.heap.size) w5.heap.size (.agg #[.slice As5 (svV n0).sets.length cs5, .slice Ak5 (svV n0).links.length ck5]) (svV n0) from (W.out.ext' hE (by omega)))
  clear W
  have W := tmp
  clear tmp
  have tmp := Lib.hid (show OwnNet (w9.alloc (.cells #[.slice As9 (n0).sets.length cs9, .slice Ak9 (n0).links.length ck9] 27)) ((w5.alloc (.cells #[.slice As5 (svV n0).sets.length cs5, .slice Ak5 (svV n0).links.length ck5] 27)).heap.size) w9.heap.size (.agg #[.slice As9 (n0).sets.length cs9, .slice Ak9 (n0).links.length ck9]) n0 from (X0.out.ext' hE (by omega)))
  clear X0
  have X0 := tmp
  clear tmp
  have hz11 : w9.heap.size ≤ (w9.alloc (.cells #[.slice As9 (n0).sets.length cs9, .slice Ak9 (n0).links.length ck9] 27)).heap.size := hE.size
  replace hx : Ext w (w9.alloc (.cells #[.slice As9 (n0).sets.length cs9, .slice Ak9 (n0).links.length ck9] 27)) := hx.trans hE
  clear hE
  have Hbx0 := Lib.hid (Boxed.new w9 [.slice As9 (n0).sets.length cs9, .slice Ak9 (n0).links.length ck9] 27)
  have bx0 := Hbx0.out
  clear Hbx0
  have bx00 := bx0.at0
  have bx01 := bx0.at1
  have bx0g := bx0.1
  have Hbx0 := Lib.hid bx0
  clear bx0
  have hzb12 : (w9.alloc (.cells #[.slice As9 (n0).sets.length cs9, .slice Ak9 (n0).links.length ck9] 27)).heap.size = w9.heap.size + 1 := World.size_alloc _ _
  refine Calls.mono (impl_SolvedNetwork (.slice As9 (n0).sets.length cs9) (.slice Ak9 (n0).links.length ck9) n0  _ (NetAt.up X0.out.at_ (by omega) (by repeat (first | exact Ext.refl _ | assumption | refine Ext.alloc ?_ _ | refine Ext.drew ?_ | refine Ext.drewN ?_ _ | refine Ext.setCell ?_ (by first | (simp; done) | (simp; omega) | omega) _ | refine Ext.trans ?_ (by assumption))))) ?_
  rintro e w13 ⟨gs13, gk13, rfl, hx13, hgo13⟩; obtain ⟨As13, cs13, rfl, _, _⟩ := hgo13.at_.1.len; obtain ⟨Ak13, ck13, rfl, _, _⟩ := hgo13.at_.2.len
  have hE : Ext (w9.alloc (.cells #[.slice As9 (n0).sets.length cs9, .slice Ak9 (n0).links.length ck9] 27)) w13 := (by repeat (first | exact Ext.refl _ | assumption | refine Ext.alloc ?_ _ | refine Ext.drew ?_ | refine Ext.drewN ?_ _ | refine Ext.setCell ?_ (by first | (simp; done) | (simp; omega) | omega) _ | refine Ext.trans ?_ (by assumption)))
  clear ba00 ba01 ba0g
  have ba0 := Hba0.out.ext hE
  clear Hba0
  have ba00 := ba0.at0
  have ba01 := ba0.at1
  have ba0g := ba0.1
  have Hba0 := Lib.hid ba0
  clear ba0
  clear bw0 bw1 bwg
  have bw := Hbw.out.ext hE
  clear Hbw
  have bw0 := bw.at0
  have bw1 := bw.at1
  have bwg := bw.1
  have Hbw := Lib.hid bw
  clear bw
  clear bx00 bx01 bx0g
  have bx0 := Hbx0.out.ext hE
  clear Hbx0
  have bx00 := bx0.at0
  have bx01 := bx0.at1
  have bx0g := bx0.1
  have Hbx0 := Lib.hid bx0
  clear bx0
  have tmp := Lib.hid (show NetAt w13 0 w.heap.size s0 k0 n0 from (H0.out.ext hE (by omega)))
  clear H0
  have H0 := tmp
  clear tmp
  have tmp := Lib.hid (show OwnNet w13 (w3.heap.size) w5.heap.size (.agg #[.slice As5 (svV n0).sets.length cs5, .slice Ak5 (svV n0).links.length ck5]) (svV n0) from (W.out.ext' hE (by omega)))
  clear W
  have W := tmp
  clear tmp
  have tmp := Lib.hid (show OwnNet w13 ((w5.alloc (.cells #[.slice As5 (svV n0).sets.length cs5, .slice Ak5 (svV n0).links.length ck5] 27)).heap.size) w9.heap.size (.agg #[.slice As9 (n0).sets.length cs9, .slice Ak9 (n0).links.length ck9]) n0 from (X0.out.ext' hE (by omega)))
  clear X0
  have X0 := tmp
  clear tmp
  have hz14 : (w9.alloc (.cells #[.slice As9 (n0).sets.length cs9, .slice Ak9 (n0).links.length ck9] 27)).heap.size ≤ w13.heap.size := hE.size
  replace hx : Ext w w13 := hx.trans hE
  clear hE
  have G := Lib.hid (show OwnNet w13 ((w9.alloc (.cells #[.slice As9 (n0).sets.length cs9, .slice Ak9 (n0).links.length ck9] 27)).heap.size) w13.heap.size (.agg #[.slice As13 (svV n0).sets.length cs13, .slice Ak13 (svV n0).links.length ck13]) (svV n0) from hgo13)
  clear hgo13
  clear hx13
  go_wp2_with fail
  have hE : Ext w13 (w13.alloc (.cells #[.slice As13 (svV n0).sets.length cs13, .slice Ak13 (svV n0).links.length ck13] 27)) := (by repeat (first | exact Ext.refl _ | assumption | refine Ext.alloc ?_ _ | refine Ext.drew ?_ | refine Ext.drewN ?_ _ | refine Ext.setCell ?_ (by first | (simp; done) | (simp; omega) | omega) _ | refine Ext.trans ?_ (by assumption)))
  clear ba00 ba01 ba0g
  have ba0 := Hba0.out.ext hE
  clear Hba0
  have ba00 := ba0.at0
  have ba01 := ba0.at1
  have ba0g := ba0.1
  have Hba0 := Lib.hid ba0
  clear ba0
  clear bw0 bw1 bwg
  have bw := Hbw.out.ext hE
  clear Hbw
  have bw0 := bw.at0
  have bw1 := bw.at1
  have bwg := bw.1
  have Hbw := Lib.hid bw
  clear bw
  clear bx00 bx01 bx0g
  have bx0 := Hbx0.out.ext hE
  clear Hbx0
  have bx00 := bx0.at0
  have bx01 := bx0.at1
  have bx0g := bx0.1
  have Hbx0 := Lib.hid bx0
  clear bx0
  have tmp := Lib.hid (show NetAt (w13.alloc (.cells #[.slice As13 (svV n0).sets.length cs13, .slice Ak13 (svV n0).links.length ck13] 27)) 0 w.heap.size s0 k0 n0 from (H0.out.ext hE (by omega)))
  clear H0
  have H0 := tmp
  clear tmp
  have tmp := Lib.hid (show OwnNet (w13.alloc (.cells #[.slice As13 (svV n0).sets.length cs13, .slice Ak13 (svV n0).links.length ck13] 27)) (w3.heap.size) w5.heap.size (.agg #[.slice As5 (svV n0).sets.length cs5, .slice Ak5 (svV n0).links.length ck5]) (svV n0) from (W.out.ext' hE (by omega)))
  clear W
  have W := tmp
  clear tmp
  have tmp := Lib.hid (show OwnNet (w13.alloc (.cells #[.slice As13 (svV n0).sets.length cs13, .slice Ak13 (svV n0).links.length ck13] 27)) ((w5.alloc (.cells #[.slice As5 (svV n0).sets.length cs5, .slice Ak5 (svV n0).links.length ck5] 27)).heap.size) w9.heap.size (.agg #[.slice As9 (n0).sets.length cs9, .slice Ak9 (n0).links.length ck9]) n0 from (X0.out.ext' hE (by omega)))
  clear X0
  have X0 := tmp
  clear tmp
  have tmp := Lib.hid (show OwnNet (w13.alloc (.cells #[.slice As13 (svV n0).sets.length cs13, .slice Ak13 (svV n0).links.length ck13] 27)) ((w9.alloc (.cells #[.slice As9 (n0).sets.length cs9, .slice Ak9 (n0).links.length ck9] 27)).heap.size) w13.heap.size (.agg #[.slice As13 (svV n0).sets.length cs13, .slice Ak13 (svV n0).links.length ck13]) (svV n0) from (G.out.ext' hE (by omega)))
  clear G
  have G := tmp
  clear tmp
  have hz15 : w13.heap.size ≤ (w13.alloc (.cells #[.slice As13 (svV n0).sets.length cs13, .slice Ak13 (svV n0).links.length ck13] 27)).heap.size := hE.size
  replace hx : Ext w (w13.alloc (.cells #[.slice As13 (svV n0).sets.length cs13, .slice Ak13 (svV n0).links.length ck13] 27)) := hx.trans hE
  clear hE
  have Hbg := Lib.hid (Boxed.new w13 [.slice As13 (svV n0).sets.length cs13, .slice Ak13 (svV n0).links.length ck13] 27)
  have bg := Hbg.out
  clear Hbg
  have bg0 := bg.at0
  have bg1 := bg.at1
  have bgg := bg.1
  have Hbg := Lib.hid bg
  clear bg
  have hzb16 : (w13.alloc (.cells #[.slice As13 (svV n0).sets.length cs13, .slice Ak13 (svV n0).links.length ck13] 27)).heap.size = w13.heap.size + 1 := World.size_alloc _ _
  refine Calls.mono (laws_eqNetwork _ _ _ _ (svV n0) _ (NetAt.up G.out.at_ (by omega) (by repeat (first | exact Ext.refl _ | assumption | refine Ext.alloc ?_ _ | refine Ext.drew ?_ | refine Ext.drewN ?_ _ | refine Ext.setCell ?_ (by first | (simp; done) | (simp; omega) | omega) _ | refine Ext.trans ?_ (by assumption)))) (NetAt.up W.out.at_ (by omega) (by repeat (first | exact Ext.refl _ | assumption | refine Ext.alloc ?_ _ | refine Ext.drew ?_ | refine Ext.drewN ?_ _ | refine Ext.setCell ?_ (by first | (simp; done) | (simp; omega) | omega) _ | refine Ext.trans ?_ (by assumption))))) ?_
  rintro e w17 ⟨rfl, hx17⟩
  have hE : Ext (w13.alloc (.cells #[.slice As13 (svV n0).sets.length cs13, .slice Ak13 (svV n0).links.length ck13] 27)) w17 := (by repeat (first | exact Ext.refl _ | assumption | refine Ext.alloc ?_ _ | refine Ext.drew ?_ | refine Ext.drewN ?_ _ | refine Ext.setCell ?_ (by first | (simp; done) | (simp; omega) | omega) _ | refine Ext.trans ?_ (by assumption)))
  clear ba00 ba01 ba0g
  have ba0 := Hba0.out.ext hE
  clear Hba0
  have ba00 := ba0.at0
  have ba01 := ba0.at1
  have ba0g := ba0.1
  have Hba0 := Lib.hid ba0
  clear ba0
  clear bw0 bw1 bwg
  have bw := Hbw.out.ext hE
  clear Hbw
  have bw0 := bw.at0
  have bw1 := bw.at1
  have bwg := bw.1
  have Hbw := Lib.hid bw
  clear bw
  clear bx00 bx01 bx0g
  have bx0 := Hbx0.out.ext hE
  clear Hbx0
  have bx00 := bx0.at0
  have bx01 := bx0.at1
  have bx0g := bx0.1
  have Hbx0 := Lib.hid bx0
  clear bx0
  clear bg0 bg1 bgg
  have bg := Hbg.out.ext hE
  clear Hbg
  have bg0 := bg.at0
  have bg1 := bg.at1
  have bgg := bg.1
  have Hbg := Lib.hid bg
  clear bg
  have tmp := Lib.hid (show NetAt w17 0 w.heap.size s0 k0 n0 from (H0.out.ext hE (by omega)))
  clear H0
  have H0 := tmp
  clear tmp
  have tmp := Lib.hid (show OwnNet w17 (w3.heap.size) w5.heap.size (.agg #[.slice As5 (svV n0).sets.length cs5, .slice Ak5 (svV n0).links.length ck5]) (svV n0) from (W.out.ext' hE (by omega)))
  clear W
  have W := tmp
  clear tmp
  have tmp := Lib.hid (show OwnNet w17 ((w5.alloc (.cells #[.slice As5 (svV n0).sets.length cs5, .slice Ak5 (svV n0).links.length ck5] 27)).heap.size) w9.heap.size (.agg #[.slice As9 (n0).sets.length cs9, .slice Ak9 (n0).links.length ck9]) n0 from (X0.out.ext' hE (by omega)))
  clear X0
  have X0 := tmp
  clear tmp
  have tmp := Lib.hid (show OwnNet w17 ((w9.alloc (.cells #[.slice As9 (n0).sets.length cs9, .slice Ak9 (n0).links.length ck9] 27)).heap.size) w13.heap.size (.agg #[.slice As13 (svV n0).sets.length cs13, .slice Ak13 (svV n0).links.length ck13]) (svV n0) from (G.out.ext' hE (by omega)))
  clear G
  have G := tmp
  clear tmp
  have hz18 : (w13.alloc (.cells #[.slice As13 (svV n0).sets.length cs13, .slice Ak13 (svV n0).links.length ck13] 27)).heap.size ≤ w17.heap.size := hE.size
  replace hx : Ext w w17 := hx.trans hE
  clear hE
  clear hx17
  go_wp2_with fail
  go_region_held3 (fun w' => w'.cell? ⟨w.heap.size, 0, none⟩ = some (s0) ∧ w'.cell? ⟨w.heap.size, 1, none⟩ = some (k0) ∧ w'.cell? ⟨w5.heap.size, 0, none⟩ = some (.slice As5 (svV n0).sets.length cs5) ∧ w'.cell? ⟨w5.heap.size, 1, none⟩ = some (.slice Ak5 (svV n0).links.length ck5) ∧ w'.cell? ⟨w9.heap.size, 0, none⟩ = some (.slice As9 (n0).sets.length cs9) ∧ w'.cell? ⟨w9.heap.size, 1, none⟩ = some (.slice Ak9 (n0).links.length ck9) ∧ w'.cell? ⟨w13.heap.size, 0, none⟩ = some (.slice As13 (svV n0).sets.length cs13) ∧ w'.cell? ⟨w13.heap.size, 1, none⟩ = some (.slice Ak13 (svV n0).links.length ck13) ∧ Ext w17 w')
    (exact Ext.and_cell ba0g ba00 (by repeat (first | exact Ext.refl _ | assumption | refine Ext.alloc ?_ _ | refine Ext.drew ?_ | refine Ext.drewN ?_ _ | refine Ext.setCell ?_ (by first | (simp; done) | (simp; omega) | omega) _ | refine Ext.trans ?_ (by assumption))) (Ext.and_cell ba0g ba01 (by repeat (first | exact Ext.refl _ | assumption | refine Ext.alloc ?_ _ | refine Ext.drew ?_ | refine Ext.drewN ?_ _ | refine Ext.setCell ?_ (by first | (simp; done) | (simp; omega) | omega) _ | refine Ext.trans ?_ (by assumption))) (Ext.and_cell bwg bw0 (by repeat (first | exact Ext.refl _ | assumption | refine Ext.alloc ?_ _ | refine Ext.drew ?_ | refine Ext.drewN ?_ _ | refine Ext.setCell ?_ (by first | (simp; done) | (simp; omega) | omega) _ | refine Ext.trans ?_ (by assumption))) (Ext.and_cell bwg bw1 (by repeat (first | exact Ext.refl _ | assumption | refine Ext.alloc ?_ _ | refine Ext.drew ?_ | refine Ext.drewN ?_ _ | refine Ext.setCell ?_ (by first | (simp; done) | (simp; omega) | omega) _ | refine Ext.trans ?_ (by assumption))) (Ext.and_cell bx0g bx00 (by repeat (first | exact Ext.refl _ | assumption | refine Ext.alloc ?_ _ | refine Ext.drew ?_ | refine Ext.drewN ?_ _ | refine Ext.setCell ?_ (by first | (simp; done) | (simp; omega) | omega) _ | refine Ext.trans ?_ (by assumption))) (Ext.and_cell bx0g bx01 (by repeat (first | exact Ext.refl _ | assumption | refine Ext.alloc ?_ _ | refine Ext.drew ?_ | refine Ext.drewN ?_ _ | refine Ext.setCell ?_ (by first | (simp; done) | (simp; omega) | omega) _ | refine Ext.trans ?_ (by assumption))) (Ext.and_cell bgg bg0 (by repeat (first | exact Ext.refl _ | assumption | refine Ext.alloc ?_ _ | refine Ext.drew ?_ | refine Ext.drewN ?_ _ | refine Ext.setCell ?_ (by first | (simp; done) | (simp; omega) | omega) _ | refine Ext.trans ?_ (by assumption))) (Ext.and_cell bgg bg1 (by repeat (first | exact Ext.refl _ | assumption | refine Ext.alloc ?_ _ | refine Ext.drew ?_ | refine Ext.drewN ?_ _ | refine Ext.setCell ?_ (by first | (simp; done) | (simp; omega) | omega) _ | refine Ext.trans ?_ (by assumption))) (by repeat (first | exact Ext.refl _ | assumption | refine Ext.alloc ?_ _ | refine Ext.drew ?_ | refine Ext.drewN ?_ _ | refine Ext.setCell ?_ (by first | (simp; done) | (simp; omega) | omega) _ | refine Ext.trans ?_ (by assumption)))))))))))
    (first
      | (go_at_call 74; refine Calls.mono (laws_toNetwork s0 k0 n0 _ (H0.out.up (by omega) (by repeat (first | exact Ext.refl _ | assumption | refine Ext.alloc ?_ _ | refine Ext.drew ?_ | refine Ext.drewN ?_ _ | refine Ext.setCell ?_ (by first | (simp; done) | (simp; omega) | omega) _ | refine Ext.trans ?_ (by assumption)))) Hsm0.out) ?_; rintro e w19 ⟨sv19, kv19, rfl, hx19, ho19⟩)
      | (go_at_call 77; refine Calls.mono (laws_eqNetwork _ _ _ _ n0 _ (NetAt.up X0.out.at_ (by omega) (by repeat (first | exact Ext.refl _ | assumption | refine Ext.alloc ?_ _ | refine Ext.drew ?_ | refine Ext.drewN ?_ _ | refine Ext.setCell ?_ (by first | (simp; done) | (simp; omega) | omega) _ | refine Ext.trans ?_ (by assumption)))) ((show NetIn w19 sv19 kv19 n0 from ho19.net.netIn).up (by repeat (first | exact Ext.refl _ | assumption | refine Ext.alloc ?_ _ | refine Ext.drew ?_ | refine Ext.drewN ?_ _ | refine Ext.setCell ?_ (by first | (simp; done) | (simp; omega) | omega) _ | refine Ext.trans ?_ (by assumption))))) ?_; rintro e w20 ⟨rfl, hx20⟩))
  have hE : Ext w17 w20 := (by repeat (first | exact Ext.refl _ | assumption | refine Ext.alloc ?_ _ | refine Ext.drew ?_ | refine Ext.drewN ?_ _ | refine Ext.setCell ?_ (by first | (simp; done) | (simp; omega) | omega) _ | refine Ext.trans ?_ (by assumption)))
  clear ba00 ba01 ba0g
  have ba0 := Hba0.out.ext hE
  clear Hba0
  have ba00 := ba0.at0
  have ba01 := ba0.at1
  have ba0g := ba0.1
  have Hba0 := Lib.hid ba0
  clear ba0
  clear bw0 bw1 bwg
  have bw := Hbw.out.ext hE
  clear Hbw
  have bw0 := bw.at0
  have bw1 := bw.at1
  have bwg := bw.1
  have Hbw := Lib.hid bw
  clear bw
  clear bx00 bx01 bx0g
  have bx0 := Hbx0.out.ext hE
  clear Hbx0
  have bx00 := bx0.at0
  have bx01 := bx0.at1
  have bx0g := bx0.1
  have Hbx0 := Lib.hid bx0
  clear bx0
  clear bg0 bg1 bgg
  have bg := Hbg.out.ext hE
  clear Hbg
  have bg0 := bg.at0
  have bg1 := bg.at1
  have bgg := bg.1
  have Hbg := Lib.hid bg
  clear bg
  have tmp := Lib.hid (show NetAt w20 0 w.heap.size s0 k0 n0 from (H0.out.ext hE (by omega)))
  clear H0
  have H0 := tmp
  clear tmp
  have tmp := Lib.hid (show OwnNet w20 (w3.heap.size) w5.heap.size (.agg #[.slice As5 (svV n0).sets.length cs5, .slice Ak5 (svV n0).links.length ck5]) (svV n0) from (W.out.ext' hE (by omega)))
  clear W
  have W := tmp
  clear tmp
  have tmp := Lib.hid (show OwnNet w20 ((w5.alloc (.cells #[.slice As5 (svV n0).sets.length cs5, .slice Ak5 (svV n0).links.length ck5] 27)).heap.size) w9.heap.size (.agg #[.slice As9 (n0).sets.length cs9, .slice Ak9 (n0).links.length ck9]) n0 from (X0.out.ext' hE (by omega)))
  clear X0
  have X0 := tmp
  clear tmp
  have tmp := Lib.hid (show OwnNet w20 ((w9.alloc (.cells #[.slice As9 (n0).sets.length cs9, .slice Ak9 (n0).links.length ck9] 27)).heap.size) w13.heap.size (.agg #[.slice As13 (svV n0).sets.length cs13, .slice Ak13 (svV n0).links.length ck13]) (svV n0) from (G.out.ext' hE (by omega)))
  clear G
  have G := tmp
  clear tmp
  have hz21 : w17.heap.size ≤ w20.heap.size := hE.size
  replace hx : Ext w w20 := hx.trans hE
  clear hE
  clear hx19 ho19 hx20
  go_wp2_with fail
  have hnc22 := netCells_le n0 Hsm0.out
  refine Calls.mono (laws_markNetwork _ _ _ _ n0 (1) _ X0.out (by omega) Hsm0.out (by omega) (by omega)) ?_
  rintro e w22 ⟨rfl, hO, hm22⟩
  clear hm22 X0
  clear ba00 ba01 ba0g
  have ba0 := Hba0.out.off hO (fun hh => by have h3 := hh.1; have h4 := hh.2; omega)
  clear Hba0
  have ba00 := ba0.at0
  have ba01 := ba0.at1
  have ba0g := ba0.1
  have Hba0 := Lib.hid ba0
  clear ba0
  clear bw0 bw1 bwg
  have bw := Hbw.out.off hO (fun hh => by have h3 := hh.1; have h4 := hh.2; omega)
  clear Hbw
  have bw0 := bw.at0
  have bw1 := bw.at1
  have bwg := bw.1
  have Hbw := Lib.hid bw
  clear bw
  clear bx00 bx01 bx0g
  have bx0 := Hbx0.out.off hO (fun hh => by have h3 := hh.1; have h4 := hh.2; omega)
  clear Hbx0
  have bx00 := bx0.at0
  have bx01 := bx0.at1
  have bx0g := bx0.1
  have Hbx0 := Lib.hid bx0
  clear bx0
  clear bg0 bg1 bgg
  have bg := Hbg.out.off hO (fun hh => by have h3 := hh.1; have h4 := hh.2; omega)
  clear Hbg
  have bg0 := bg.at0
  have bg1 := bg.at1
  have bgg := bg.1
  have Hbg := Lib.hid bg
  clear bg
  have tmp := Lib.hid (show NetAt w22 0 w.heap.size s0 k0 n0 from (H0.out.off hO (fun x h1 h2 hh => by have h3 := hh.1; have h4 := hh.2; omega) (by omega)))
  clear H0
  have H0 := tmp
  clear tmp
  have tmp := Lib.hid (show OwnNet w22 (w3.heap.size) w5.heap.size (.agg #[.slice As5 (svV n0).sets.length cs5, .slice Ak5 (svV n0).links.length ck5]) (svV n0) from (W.out.off' hO (fun x h1 h2 hh => by have h3 := hh.1; have h4 := hh.2; omega) (by omega)))
  clear W
  have W := tmp
  clear tmp
  have tmp := Lib.hid (show OwnNet w22 ((w9.alloc (.cells #[.slice As9 (n0).sets.length cs9, .slice Ak9 (n0).links.length ck9] 27)).heap.size) w13.heap.size (.agg #[.slice As13 (svV n0).sets.length cs13, .slice Ak13 (svV n0).links.length ck13]) (svV n0) from (G.out.off' hO (fun x h1 h2 hh => by have h3 := hh.1; have h4 := hh.2; omega) (by omega)))
  clear G
  have G := tmp
  clear tmp
  have hz23 : w20.heap.size ≤ w22.heap.size := hO.size
  replace hx : Ext w w22 := hx.off hO (fun x h1 hh => by have h3 := hh.1; omega)
  clear hO
  obtain ⟨m22, hmm22⟩ : ∃ m : Int, (1 : Int) + netCells n0 = m := ⟨_, rfl⟩
  rw [hmm22]
  have hmn : decide (m22 < 0) = false := decide_eq_false (by omega)
  go_wp2_with fail
  refine Calls.mono (laws_eqNetwork _ _ _ _ (svV n0) _ (NetAt.up G.out.at_ (by omega) (by repeat (first | exact Ext.refl _ | assumption | refine Ext.alloc ?_ _ | refine Ext.drew ?_ | refine Ext.drewN ?_ _ | refine Ext.setCell ?_ (by first | (simp; done) | (simp; omega) | omega) _ | refine Ext.trans ?_ (by assumption)))) (NetAt.up W.out.at_ (by omega) (by repeat (first | exact Ext.refl _ | assumption | refine Ext.alloc ?_ _ | refine Ext.drew ?_ | refine Ext.drewN ?_ _ | refine Ext.setCell ?_ (by first | (simp; done) | (simp; omega) | omega) _ | refine Ext.trans ?_ (by assumption))))) ?_
  rintro e w24 ⟨rfl, hx24⟩
  have hE : Ext w22 w24 := (by repeat (first | exact Ext.refl _ | assumption | refine Ext.alloc ?_ _ | refine Ext.drew ?_ | refine Ext.drewN ?_ _ | refine Ext.setCell ?_ (by first | (simp; done) | (simp; omega) | omega) _ | refine Ext.trans ?_ (by assumption)))
  clear ba00 ba01 ba0g
  have ba0 := Hba0.out.ext hE
  clear Hba0
  have ba00 := ba0.at0
  have ba01 := ba0.at1
  have ba0g := ba0.1
  have Hba0 := Lib.hid ba0
  clear ba0
  clear bw0 bw1 bwg
  have bw := Hbw.out.ext hE
  clear Hbw
  have bw0 := bw.at0
  have bw1 := bw.at1
  have bwg := bw.1
  have Hbw := Lib.hid bw
  clear bw
  clear bx00 bx01 bx0g
  have bx0 := Hbx0.out.ext hE
  clear Hbx0
  have bx00 := bx0.at0
  have bx01 := bx0.at1
  have bx0g := bx0.1
  have Hbx0 := Lib.hid bx0
  clear bx0
  clear bg0 bg1 bgg
  have bg := Hbg.out.ext hE
  clear Hbg
  have bg0 := bg.at0
  have bg1 := bg.at1
  have bgg := bg.1
  have Hbg := Lib.hid bg
  clear bg
  have tmp := Lib.hid (show NetAt w24 0 w.heap.size s0 k0 n0 from (H0.out.ext hE (by omega)))
  clear H0
  have H0 := tmp
  clear tmp
  have tmp := Lib.hid (show OwnNet w24 (w3.heap.size) w5.heap.size (.agg #[.slice As5 (svV n0).sets.length cs5, .slice Ak5 (svV n0).links.length ck5]) (svV n0) from (W.out.ext' hE (by omega)))
  clear W
  have W := tmp
  clear tmp
  have tmp := Lib.hid (show OwnNet w24 ((w9.alloc (.cells #[.slice As9 (n0).sets.length cs9, .slice Ak9 (n0).links.length ck9] 27)).heap.size) w13.heap.size (.agg #[.slice As13 (svV n0).sets.length cs13, .slice Ak13 (svV n0).links.length ck13]) (svV n0) from (G.out.ext' hE (by omega)))
  clear G
  have G := tmp
  clear tmp
  have hz25 : w22.heap.size ≤ w24.heap.size := hE.size
  replace hx : Ext w w24 := hx.trans hE
  clear hE
  clear hx24
  go_wp2_with fail
  have HsR := Lib.hid (svV_small n0)
  have hnc26 := netCells_le _ HsR.out
  refine Calls.mono (laws_markNetwork _ _ _ _ (svV n0) 1 _ G.out (by omega) HsR.out (by omega) (by omega)) ?_
  rintro e w26 ⟨rfl, hO, hm26⟩
  clear G
  clear ba00 ba01 ba0g
  have ba0 := Hba0.out.off hO (fun hh => by have h3 := hh.1; have h4 := hh.2; omega)
  clear Hba0
  have ba00 := ba0.at0
  have ba01 := ba0.at1
  have ba0g := ba0.1
  have Hba0 := Lib.hid ba0
  clear ba0
  clear bw0 bw1 bwg
  have bw := Hbw.out.off hO (fun hh => by have h3 := hh.1; have h4 := hh.2; omega)
  clear Hbw
  have bw0 := bw.at0
  have bw1 := bw.at1
  have bwg := bw.1
  have Hbw := Lib.hid bw
  clear bw
  clear bx00 bx01 bx0g
  have bx0 := Hbx0.out.off hO (fun hh => by have h3 := hh.1; have h4 := hh.2; omega)
  clear Hbx0
  have bx00 := bx0.at0
  have bx01 := bx0.at1
  have bx0g := bx0.1
  have Hbx0 := Lib.hid bx0
  clear bx0
  clear bg0 bg1 bgg
  have bg := Hbg.out.off hO (fun hh => by have h3 := hh.1; have h4 := hh.2; omega)
  clear Hbg
  have bg0 := bg.at0
  have bg1 := bg.at1
  have bgg := bg.1
  have Hbg := Lib.hid bg
  clear bg
  have tmp := Lib.hid (show NetAt w26 0 w.heap.size s0 k0 n0 from (H0.out.off hO (fun x h1 h2 hh => by have h3 := hh.1; have h4 := hh.2; omega) (by omega)))
  clear H0
  have H0 := tmp
  clear tmp
  have tmp := Lib.hid (show OwnNet w26 (w3.heap.size) w5.heap.size (.agg #[.slice As5 (svV n0).sets.length cs5, .slice Ak5 (svV n0).links.length ck5]) (svV n0) from (W.out.off' hO (fun x h1 h2 hh => by have h3 := hh.1; have h4 := hh.2; omega) (by omega)))
  clear W
  have W := tmp
  clear tmp
  have hz27 : w24.heap.size ≤ w26.heap.size := hO.size
  replace hx : Ext w w26 := hx.off hO (fun x h1 hh => by have h3 := hh.1; omega)
  clear hO
  have G := Lib.hid (show MarkedNet w26 ((w9.alloc (.cells #[.slice As9 (n0).sets.length cs9, .slice Ak9 (n0).links.length ck9] 27)).heap.size) (w13.heap.size) (.agg #[.slice As13 (svV n0).sets.length cs13, .slice Ak13 (svV n0).links.length ck13]) (svV n0) 1 from hm26)
  clear hm26
  obtain ⟨m, hmm⟩ : ∃ m : Int, (1 : Int) + netCells (svV n0) = m := ⟨_, rfl⟩
  rw [hmm]
  have hmz : decide (m < 0) = false := decide_eq_false (by omega)
  have hme : (m != m) = false := bne_self_eq_false m
  go_wp2_with fail
  refine Calls.mono (laws_heldNetwork _ _ _ _ (svV n0) 1 _ G.out (by omega) HsR.out (by omega) (by omega)) ?_
  rintro e w28 ⟨rfl, hx28⟩
  have hE : Ext w26 w28 := (by repeat (first | exact Ext.refl _ | assumption | refine Ext.alloc ?_ _ | refine Ext.drew ?_ | refine Ext.drewN ?_ _ | refine Ext.setCell ?_ (by first | (simp; done) | (simp; omega) | omega) _ | refine Ext.trans ?_ (by assumption)))
  clear ba00 ba01 ba0g
  have ba0 := Hba0.out.ext hE
  clear Hba0
  have ba00 := ba0.at0
  have ba01 := ba0.at1
  have ba0g := ba0.1
  have Hba0 := Lib.hid ba0
  clear ba0
  clear bw0 bw1 bwg
  have bw := Hbw.out.ext hE
  clear Hbw
  have bw0 := bw.at0
  have bw1 := bw.at1
  have bwg := bw.1
  have Hbw := Lib.hid bw
  clear bw
  clear bx00 bx01 bx0g
  have bx0 := Hbx0.out.ext hE
  clear Hbx0
  have bx00 := bx0.at0
  have bx01 := bx0.at1
  have bx0g := bx0.1
  have Hbx0 := Lib.hid bx0
  clear bx0
  clear bg0 bg1 bgg
  have bg := Hbg.out.ext hE
  clear Hbg
  have bg0 := bg.at0
  have bg1 := bg.at1
  have bgg := bg.1
  have Hbg := Lib.hid bg
  clear bg
  have tmp := Lib.hid (show NetAt w28 0 w.heap.size s0 k0 n0 from (H0.out.ext hE (by omega)))
  clear H0
  have H0 := tmp
  clear tmp
  have tmp := Lib.hid (show OwnNet w28 (w3.heap.size) w5.heap.size (.agg #[.slice As5 (svV n0).sets.length cs5, .slice Ak5 (svV n0).links.length ck5]) (svV n0) from (W.out.ext' hE (by omega)))
  clear W
  have W := tmp
  clear tmp
  have tmp := Lib.hid (show MarkedNet w28 ((w9.alloc (.cells #[.slice As9 (n0).sets.length cs9, .slice Ak9 (n0).links.length ck9] 27)).heap.size) (w13.heap.size) (.agg #[.slice As13 (svV n0).sets.length cs13, .slice Ak13 (svV n0).links.length ck13]) (svV n0) 1 from (G.out.ext hE (by omega)))
  clear G
  have G := tmp
  clear tmp
  have hz29 : w26.heap.size ≤ w28.heap.size := hE.size
  replace hx : Ext w w28 := hx.trans hE
  clear hE
  clear hx28
  rw [hmm]
  go_wp2_with fail
  refine Calls.mono (laws_toNetwork s0 k0 n0 _ (H0.out.up (by omega) (by repeat (first | exact Ext.refl _ | assumption | refine Ext.alloc ?_ _ | refine Ext.drew ?_ | refine Ext.drewN ?_ _ | refine Ext.setCell ?_ (by first | (simp; done) | (simp; omega) | omega) _ | refine Ext.trans ?_ (by assumption)))) Hsm0.out) ?_
  rintro e w30 ⟨sv30, kv30, rfl, hx30, ho30⟩
  have hE : Ext w28 w30 := (by repeat (first | exact Ext.refl _ | assumption | refine Ext.alloc ?_ _ | refine Ext.drew ?_ | refine Ext.drewN ?_ _ | refine Ext.setCell ?_ (by first | (simp; done) | (simp; omega) | omega) _ | refine Ext.trans ?_ (by assumption)))
  clear ba00 ba01 ba0g
  have ba0 := Hba0.out.ext hE
  clear Hba0
  have ba00 := ba0.at0
  have ba01 := ba0.at1
  have ba0g := ba0.1
  have Hba0 := Lib.hid ba0
  clear ba0
  clear bw0 bw1 bwg
  have bw := Hbw.out.ext hE
  clear Hbw
  have bw0 := bw.at0
  have bw1 := bw.at1
  have bwg := bw.1
  have Hbw := Lib.hid bw
  clear bw
  clear bx00 bx01 bx0g
  have bx0 := Hbx0.out.ext hE
  clear Hbx0
  have bx00 := bx0.at0
  have bx01 := bx0.at1
  have bx0g := bx0.1
  have Hbx0 := Lib.hid bx0
  clear bx0
  clear bg0 bg1 bgg
  have bg := Hbg.out.ext hE
  clear Hbg
  have bg0 := bg.at0
  have bg1 := bg.at1
  have bgg := bg.1
  have Hbg := Lib.hid bg
  clear bg
  have tmp := Lib.hid (show NetAt w30 0 w.heap.size s0 k0 n0 from (H0.out.ext hE (by omega)))
  clear H0
  have H0 := tmp
  clear tmp
  have tmp := Lib.hid (show OwnNet w30 (w3.heap.size) w5.heap.size (.agg #[.slice As5 (svV n0).sets.length cs5, .slice Ak5 (svV n0).links.length ck5]) (svV n0) from (W.out.ext' hE (by omega)))
  clear W
  have W := tmp
  clear tmp
  have tmp := Lib.hid (show MarkedNet w30 ((w9.alloc (.cells #[.slice As9 (n0).sets.length cs9, .slice Ak9 (n0).links.length ck9] 27)).heap.size) (w13.heap.size) (.agg #[.slice As13 (svV n0).sets.length cs13, .slice Ak13 (svV n0).links.length ck13]) (svV n0) 1 from (G.out.ext hE (by omega)))
  clear G
  have G := tmp
  clear tmp
  have hz31 : w28.heap.size ≤ w30.heap.size := hE.size
  replace hx : Ext w w30 := hx.trans hE
  clear hE
  have R30 := Lib.hid (show NetAt w30 0 w30.heap.size sv30 kv30 n0 from ho30.net.netIn)
  clear ho30
  clear hx30
  go_wp2_with fail
  refine Calls.mono (impl_SolvedNetwork sv30 kv30 n0  _ (R30.out.up (by omega) (by repeat (first | exact Ext.refl _ | assumption | refine Ext.alloc ?_ _ | refine Ext.drew ?_ | refine Ext.drewN ?_ _ | refine Ext.setCell ?_ (by first | (simp; done) | (simp; omega) | omega) _ | refine Ext.trans ?_ (by assumption))))) ?_
  rintro e w32 ⟨gs32, gk32, rfl, hx32, hgo32⟩; obtain ⟨As32, cs32, rfl, _, _⟩ := hgo32.at_.1.len; obtain ⟨Ak32, ck32, rfl, _, _⟩ := hgo32.at_.2.len
  have hE : Ext w30 w32 := (by repeat (first | exact Ext.refl _ | assumption | refine Ext.alloc ?_ _ | refine Ext.drew ?_ | refine Ext.drewN ?_ _ | refine Ext.setCell ?_ (by first | (simp; done) | (simp; omega) | omega) _ | refine Ext.trans ?_ (by assumption)))
  clear ba00 ba01 ba0g
  have ba0 := Hba0.out.ext hE
  clear Hba0
  have ba00 := ba0.at0
  have ba01 := ba0.at1
  have ba0g := ba0.1
  have Hba0 := Lib.hid ba0
  clear ba0
  clear bw0 bw1 bwg
  have bw := Hbw.out.ext hE
  clear Hbw
  have bw0 := bw.at0
  have bw1 := bw.at1
  have bwg := bw.1
  have Hbw := Lib.hid bw
  clear bw
  clear bx00 bx01 bx0g
  have bx0 := Hbx0.out.ext hE
  clear Hbx0
  have bx00 := bx0.at0
  have bx01 := bx0.at1
  have bx0g := bx0.1
  have Hbx0 := Lib.hid bx0
  clear bx0
  clear bg0 bg1 bgg
  have bg := Hbg.out.ext hE
  clear Hbg
  have bg0 := bg.at0
  have bg1 := bg.at1
  have bgg := bg.1
  have Hbg := Lib.hid bg
  clear bg
  have tmp := Lib.hid (show NetAt w32 0 w.heap.size s0 k0 n0 from (H0.out.ext hE (by omega)))
  clear H0
  have H0 := tmp
  clear tmp
  have tmp := Lib.hid (show OwnNet w32 (w3.heap.size) w5.heap.size (.agg #[.slice As5 (svV n0).sets.length cs5, .slice Ak5 (svV n0).links.length ck5]) (svV n0) from (W.out.ext' hE (by omega)))
  clear W
  have W := tmp
  clear tmp
  have tmp := Lib.hid (show MarkedNet w32 ((w9.alloc (.cells #[.slice As9 (n0).sets.length cs9, .slice Ak9 (n0).links.length ck9] 27)).heap.size) (w13.heap.size) (.agg #[.slice As13 (svV n0).sets.length cs13, .slice Ak13 (svV n0).links.length ck13]) (svV n0) 1 from (G.out.ext hE (by omega)))
  clear G
  have G := tmp
  clear tmp
  have tmp := Lib.hid (show NetAt w32 0 w30.heap.size sv30 kv30 n0 from (R30.out.ext hE (by omega)))
  clear R30
  have R30 := tmp
  clear tmp
  have hz33 : w30.heap.size ≤ w32.heap.size := hE.size
  replace hx : Ext w w32 := hx.trans hE
  clear hE
  clear R30
  have Hh := Lib.hid (show OwnNet w32 (w30.heap.size) w32.heap.size (.agg #[.slice As32 (svV n0).sets.length cs32, .slice Ak32 (svV n0).links.length ck32]) (svV n0) from hgo32)
  clear hgo32
  clear hx32
  go_wp2_with fail
  have hE : Ext w32 (w32.alloc (.cells #[.slice As32 (svV n0).sets.length cs32, .slice Ak32 (svV n0).links.length ck32] 27)) := (by repeat (first | exact Ext.refl _ | assumption | refine Ext.alloc ?_ _ | refine Ext.drew ?_ | refine Ext.drewN ?_ _ | refine Ext.setCell ?_ (by first | (simp; done) | (simp; omega) | omega) _ | refine Ext.trans ?_ (by assumption)))
  clear ba00 ba01 ba0g
  have ba0 := Hba0.out.ext hE
  clear Hba0
  have ba00 := ba0.at0
  have ba01 := ba0.at1
  have ba0g := ba0.1
  have Hba0 := Lib.hid ba0
  clear ba0
  clear bw0 bw1 bwg
  have bw := Hbw.out.ext hE
  clear Hbw
  have bw0 := bw.at0
  have bw1 := bw.at1
  have bwg := bw.1
  have Hbw := Lib.hid bw
  clear bw
  clear bx00 bx01 bx0g
  have bx0 := Hbx0.out.ext hE
  clear Hbx0
  have bx00 := bx0.at0
  have bx01 := bx0.at1
  have bx0g := bx0.1
  have Hbx0 := Lib.hid bx0
  clear bx0
  clear bg0 bg1 bgg
  have bg := Hbg.out.ext hE
  clear Hbg
  have bg0 := bg.at0
  have bg1 := bg.at1
  have bgg := bg.1
  have Hbg := Lib.hid bg
  clear bg
  have tmp := Lib.hid (show NetAt (w32.alloc (.cells #[.slice As32 (svV n0).sets.length cs32, .slice Ak32 (svV n0).links.length ck32] 27)) 0 w.heap.size s0 k0 n0 from (H0.out.ext hE (by omega)))
  clear H0
  have H0 := tmp
  clear tmp
  have tmp := Lib.hid (show OwnNet (w32.alloc (.cells #[.slice As32 (svV n0).sets.length cs32, .slice Ak32 (svV n0).links.length ck32] 27)) (w3.heap.size) w5.heap.size (.agg #[.slice As5 (svV n0).sets.length cs5, .slice Ak5 (svV n0).links.length ck5]) (svV n0) from (W.out.ext' hE (by omega)))
  clear W
  have W := tmp
  clear tmp
  have tmp := Lib.hid (show MarkedNet (w32.alloc (.cells #[.slice As32 (svV n0).sets.length cs32, .slice Ak32 (svV n0).links.length ck32] 27)) ((w9.alloc (.cells #[.slice As9 (n0).sets.length cs9, .slice Ak9 (n0).links.length ck9] 27)).heap.size) (w13.heap.size) (.agg #[.slice As13 (svV n0).sets.length cs13, .slice Ak13 (svV n0).links.length ck13]) (svV n0) 1 from (G.out.ext hE (by omega)))
  clear G
  have G := tmp
  clear tmp
  have tmp := Lib.hid (show OwnNet (w32.alloc (.cells #[.slice As32 (svV n0).sets.length cs32, .slice Ak32 (svV n0).links.length ck32] 27)) (w30.heap.size) w32.heap.size (.agg #[.slice As32 (svV n0).sets.length cs32, .slice Ak32 (svV n0).links.length ck32]) (svV n0) from (Hh.out.ext' hE (by omega)))
  clear Hh
  have Hh := tmp
  clear tmp
  have hz34 : w32.heap.size ≤ (w32.alloc (.cells #[.slice As32 (svV n0).sets.length cs32, .slice Ak32 (svV n0).links.length ck32] 27)).heap.size := hE.size
  replace hx : Ext w (w32.alloc (.cells #[.slice As32 (svV n0).sets.length cs32, .slice Ak32 (svV n0).links.length ck32] 27)) := hx.trans hE
  clear hE
  have Hbh := Lib.hid (Boxed.new w32 [.slice As32 (svV n0).sets.length cs32, .slice Ak32 (svV n0).links.length ck32] 27)
  have bh := Hbh.out
  clear Hbh
  have bh0 := bh.at0
  have bh1 := bh.at1
  have bhg := bh.1
  have Hbh := Lib.hid bh
  clear bh
  have hzb35 : (w32.alloc (.cells #[.slice As32 (svV n0).sets.length cs32, .slice Ak32 (svV n0).links.length ck32] 27)).heap.size = w32.heap.size + 1 := World.size_alloc _ _
  refine Calls.mono (laws_eqNetwork _ _ _ _ (svV n0) _ (NetAt.up Hh.out.at_ (by omega) (by repeat (first | exact Ext.refl _ | assumption | refine Ext.alloc ?_ _ | refine Ext.drew ?_ | refine Ext.drewN ?_ _ | refine Ext.setCell ?_ (by first | (simp; done) | (simp; omega) | omega) _ | refine Ext.trans ?_ (by assumption)))) (NetAt.up W.out.at_ (by omega) (by repeat (first | exact Ext.refl _ | assumption | refine Ext.alloc ?_ _ | refine Ext.drew ?_ | refine Ext.drewN ?_ _ | refine Ext.setCell ?_ (by first | (simp; done) | (simp; omega) | omega) _ | refine Ext.trans ?_ (by assumption))))) ?_
  rintro e w36 ⟨rfl, hx36⟩
  have hE : Ext (w32.alloc (.cells #[.slice As32 (svV n0).sets.length cs32, .slice Ak32 (svV n0).links.length ck32] 27)) w36 := (by repeat (first | exact Ext.refl _ | assumption | refine Ext.alloc ?_ _ | refine Ext.drew ?_ | refine Ext.drewN ?_ _ | refine Ext.setCell ?_ (by first | (simp; done) | (simp; omega) | omega) _ | refine Ext.trans ?_ (by assumption)))
  clear ba00 ba01 ba0g
  have ba0 := Hba0.out.ext hE
  clear Hba0
  have ba00 := ba0.at0
  have ba01 := ba0.at1
  have ba0g := ba0.1
  have Hba0 := Lib.hid ba0
  clear ba0
  clear bw0 bw1 bwg
  have bw := Hbw.out.ext hE
  clear Hbw
  have bw0 := bw.at0
  have bw1 := bw.at1
  have bwg := bw.1
  have Hbw := Lib.hid bw
  clear bw
  clear bx00 bx01 bx0g
  have bx0 := Hbx0.out.ext hE
  clear Hbx0
  have bx00 := bx0.at0
  have bx01 := bx0.at1
  have bx0g := bx0.1
  have Hbx0 := Lib.hid bx0
  clear bx0
  clear bg0 bg1 bgg
  have bg := Hbg.out.ext hE
  clear Hbg
  have bg0 := bg.at0
  have bg1 := bg.at1
  have bgg := bg.1
  have Hbg := Lib.hid bg
  clear bg
  clear bh0 bh1 bhg
  have bh := Hbh.out.ext hE
  clear Hbh
  have bh0 := bh.at0
  have bh1 := bh.at1
  have bhg := bh.1
  have Hbh := Lib.hid bh
  clear bh
  have tmp := Lib.hid (show NetAt w36 0 w.heap.size s0 k0 n0 from (H0.out.ext hE (by omega)))
  clear H0
  have H0 := tmp
  clear tmp
  have tmp := Lib.hid (show OwnNet w36 (w3.heap.size) w5.heap.size (.agg #[.slice As5 (svV n0).sets.length cs5, .slice Ak5 (svV n0).links.length ck5]) (svV n0) from (W.out.ext' hE (by omega)))
  clear W
  have W := tmp
  clear tmp
  have tmp := Lib.hid (show MarkedNet w36 ((w9.alloc (.cells #[.slice As9 (n0).sets.length cs9, .slice Ak9 (n0).links.length ck9] 27)).heap.size) (w13.heap.size) (.agg #[.slice As13 (svV n0).sets.length cs13, .slice Ak13 (svV n0).links.length ck13]) (svV n0) 1 from (G.out.ext hE (by omega)))
  clear G
  have G := tmp
  clear tmp
  have tmp := Lib.hid (show OwnNet w36 (w30.heap.size) w32.heap.size (.agg #[.slice As32 (svV n0).sets.length cs32, .slice Ak32 (svV n0).links.length ck32]) (svV n0) from (Hh.out.ext' hE (by omega)))
  clear Hh
  have Hh := tmp
  clear tmp
  have hz37 : (w32.alloc (.cells #[.slice As32 (svV n0).sets.length cs32, .slice Ak32 (svV n0).links.length ck32] 27)).heap.size ≤ w36.heap.size := hE.size
  replace hx : Ext w w36 := hx.trans hE
  clear hE
  clear hx36
  go_wp2_with fail
  refine Calls.mono (laws_heldNetwork _ _ _ _ (svV n0) 1 _ G.out (by omega) HsR.out (by omega) (by omega)) ?_
  rintro e w38 ⟨rfl, hx38⟩
  have hE : Ext w36 w38 := (by repeat (first | exact Ext.refl _ | assumption | refine Ext.alloc ?_ _ | refine Ext.drew ?_ | refine Ext.drewN ?_ _ | refine Ext.setCell ?_ (by first | (simp; done) | (simp; omega) | omega) _ | refine Ext.trans ?_ (by assumption)))
  clear ba00 ba01 ba0g
  have ba0 := Hba0.out.ext hE
  clear Hba0
  have ba00 := ba0.at0
  have ba01 := ba0.at1
  have ba0g := ba0.1
  have Hba0 := Lib.hid ba0
  clear ba0
  clear bw0 bw1 bwg
  have bw := Hbw.out.ext hE
  clear Hbw
  have bw0 := bw.at0
  have bw1 := bw.at1
  have bwg := bw.1
  have Hbw := Lib.hid bw
  clear bw
  clear bx00 bx01 bx0g
  have bx0 := Hbx0.out.ext hE
  clear Hbx0
  have bx00 := bx0.at0
  have bx01 := bx0.at1
  have bx0g := bx0.1
  have Hbx0 := Lib.hid bx0
  clear bx0
  clear bg0 bg1 bgg
  have bg := Hbg.out.ext hE
  clear Hbg
  have bg0 := bg.at0
  have bg1 := bg.at1
  have bgg := bg.1
  have Hbg := Lib.hid bg
  clear bg
  clear bh0 bh1 bhg
  have bh := Hbh.out.ext hE
  clear Hbh
  have bh0 := bh.at0
  have bh1 := bh.at1
  have bhg := bh.1
  have Hbh := Lib.hid bh
  clear bh
  have tmp := Lib.hid (show NetAt w38 0 w.heap.size s0 k0 n0 from (H0.out.ext hE (by omega)))
  clear H0
  have H0 := tmp
  clear tmp
  have tmp := Lib.hid (show OwnNet w38 (w3.heap.size) w5.heap.size (.agg #[.slice As5 (svV n0).sets.length cs5, .slice Ak5 (svV n0).links.length ck5]) (svV n0) from (W.out.ext' hE (by omega)))
  clear W
  have W := tmp
  clear tmp
  have tmp := Lib.hid (show MarkedNet w38 ((w9.alloc (.cells #[.slice As9 (n0).sets.length cs9, .slice Ak9 (n0).links.length ck9] 27)).heap.size) (w13.heap.size) (.agg #[.slice As13 (svV n0).sets.length cs13, .slice Ak13 (svV n0).links.length ck13]) (svV n0) 1 from (G.out.ext hE (by omega)))
  clear G
  have G := tmp
  clear tmp
  have tmp := Lib.hid (show OwnNet w38 (w30.heap.size) w32.heap.size (.agg #[.slice As32 (svV n0).sets.length cs32, .slice Ak32 (svV n0).links.length ck32]) (svV n0) from (Hh.out.ext' hE (by omega)))
  clear Hh
  have Hh := tmp
  clear tmp
  have hz39 : w36.heap.size ≤ w38.heap.size := hE.size
  replace hx : Ext w w38 := hx.trans hE
  clear hE
  clear hx38
  rw [hmm]
  go_wp2_with fail
  go_ret
  exact ⟨rfl, hx⟩
end Go.Proofs.Ytfajmlkiidnhlaa
