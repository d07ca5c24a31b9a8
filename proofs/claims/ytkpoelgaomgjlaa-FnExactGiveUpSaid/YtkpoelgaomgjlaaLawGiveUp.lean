/- The law FnExactGiveUp, walked out of the contracts of the program's GiveUp and the reference's. -/
import Derived.Test.YtkpoelgaomgjlaaGx
import Derived.Test.YtkpoelgaomgjlaaO
import Derived.Deep.RegionHeld3
namespace Go.Proofs.Ytkpoelgaomgjlaa
set_option linter.unusedVariables false
set_option linter.unusedSimpArgs false
open Go.RowKit
attribute [local go_sem] cell_onto

set_option maxHeartbeats 4000000 in
theorem law_GiveUp (s0 k0 : Value) (n0 : Net) (v1 : Value) (l1 : List Int) (w : World) (h0 : NetIn w s0 k0 n0) (h1 : Ints w 0 w.heap.size v1 l1) :
    Calls Try.prog 8 #[.agg #[s0, k0], v1] w (RetX (.bool true) w) := by
  have H0 := Lib.hid (show NetAt w 0 w.heap.size s0 k0 n0 from h0)
  clear h0
  obtain ⟨A1, c1, rfl, hl1, hc1⟩ := h1.len
  have H1 := Lib.hid (show Ints w 0 w.heap.size (.slice A1 l1.length c1) l1 from h1)
  clear h1
  have hx := Ext.refl w
  go_enter Try.func8, Try.ntmps8
  by_cases hg1 : (l1.length : Int) ≤ 1048576
  case neg =>
    go_wp2_with fail
    go_ret
    exact ⟨rfl, (by repeat (first | exact Ext.refl _ | assumption | refine Ext.alloc ?_ _ | refine Ext.drew ?_ | refine Ext.drewN ?_ _ | refine Ext.setCell ?_ (by first | (simp; done) | (simp; omega) | omega) _ | refine Ext.trans ?_ (by assumption)))⟩
  go_wp2_with fail
  have Hsm1 := Lib.hid (show l1.length ≤ 1048576 by omega)
  refine Calls.mono (laws_szNetwork s0 k0 n0 1048576 _ (by omega) (by omega) (H0.out.up (by omega) (by repeat (first | exact Ext.refl _ | assumption | refine Ext.alloc ?_ _ | refine Ext.drew ?_ | refine Ext.drewN ?_ _ | refine Ext.setCell ?_ (by first | (simp; done) | (simp; omega) | omega) _ | refine Ext.trans ?_ (by assumption))))) ?_
  rintro e w1 ⟨r1, rfl, hx1, hra1, hrb1, hrc1⟩
  have hE : Ext w w1 := (by repeat (first | exact Ext.refl _ | assumption | refine Ext.alloc ?_ _ | refine Ext.drew ?_ | refine Ext.drewN ?_ _ | refine Ext.setCell ?_ (by first | (simp; done) | (simp; omega) | omega) _ | refine Ext.trans ?_ (by assumption)))
  have ba0 := (show Boxed w1 (w.heap.size) [s0, k0] from by have hb' := ((Boxed.new w [s0, k0] 25)).ext hx1; exact hb'); have ba00 := ba0.at0; have ba01 := ba0.at1; have ba0g := ba0.1; have Hba0 := Lib.hid ba0; clear ba0
  have tmp := Lib.hid (show NetAt w1 0 w.heap.size s0 k0 n0 from (H0.out.ext hE (by omega)))
  clear H0
  have H0 := tmp
  clear tmp
  have tmp := Lib.hid (show Ints w1 0 w.heap.size (.slice A1 l1.length c1) l1 from (Row.ext H1.out hE (by omega)))
  clear H1
  have H1 := tmp
  clear tmp
  have hz2 : w.heap.size ≤ w1.heap.size := hE.size
  replace hx : Ext w w1 := hx.trans hE
  clear hE
  have hq0 : w.heap.size < w1.heap.size := ba0g
  have Hr0 := Lib.hid hrc1
  clear hrc1 hx1
  by_cases hneg1 : r1 < 0
  case pos =>
    go_wp2_with fail
    go_ret
    exact ⟨rfl, (by repeat (first | exact Ext.refl _ | assumption | refine Ext.alloc ?_ _ | refine Ext.drew ?_ | refine Ext.drewN ?_ _ | refine Ext.setCell ?_ (by first | (simp; done) | (simp; omega) | omega) _ | refine Ext.trans ?_ (by assumption)))⟩
  have Hsm0 := Lib.hid (Hr0.out (by omega))
  go_wp2_with fail
  refine Calls.mono (laws_toNetwork s0 k0 n0 _ (H0.out.up (by omega) (by repeat (first | exact Ext.refl _ | assumption | refine Ext.alloc ?_ _ | refine Ext.drew ?_ | refine Ext.drewN ?_ _ | refine Ext.setCell ?_ (by first | (simp; done) | (simp; omega) | omega) _ | refine Ext.trans ?_ (by assumption)))) Hsm0.out) ?_
  rintro e w3 ⟨sv3, kv3, rfl, hx3, ho3⟩
  have hE : Ext w1 w3 := (by repeat (first | exact Ext.refl _ | assumption | refine Ext.alloc ?_ _ | refine Ext.drew ?_ | refine Ext.drewN ?_ _ | refine Ext.setCell ?_ (by first | (simp; done) | (simp; omega) | omega) _ | refine Ext.trans ?_ (by assumption)))
  clear ba00 ba01 ba0g
  have ba0 := Hba0.out.ext hE
  clear Hba0
  have ba00 := ba0.at0
  have ba01 := ba0.at1
  have ba0g := ba0.1
  have Hba0 := Lib.hid ba0
  clear ba0
  have tmp := Lib.hid (show NetAt w3 0 w.heap.size s0 k0 n0 from (H0.out.ext hE (by omega)))
  clear H0
  have H0 := tmp
  clear tmp
  have tmp := Lib.hid (show Ints w3 0 w.heap.size (.slice A1 l1.length c1) l1 from (Row.ext H1.out hE (by omega)))
  clear H1
  have H1 := tmp
  clear tmp
  have hz4 : w1.heap.size ≤ w3.heap.size := hE.size
  replace hx : Ext w w3 := hx.trans hE
  clear hE
  have R3 := Lib.hid (show NetAt w3 0 w3.heap.size sv3 kv3 n0 from ho3.net.netIn)
  clear ho3
  clear hx3
  go_wp2_with fail
  refine Calls.mono (laws_toInt64S _ l1 0 _ _ (H1.out.upAt (by omega) (by repeat (first | exact Ext.refl _ | assumption | refine Ext.alloc ?_ _ | refine Ext.drew ?_ | refine Ext.drewN ?_ _ | refine Ext.setCell ?_ (by first | (simp; done) | (simp; omega) | omega) _ | refine Ext.trans ?_ (by assumption)))) (Nat.le_refl _) Hsm1.out) ?_
  rintro e w5 ⟨sv5, gv5, rfl, hx5, hg5, ho5⟩
  have hE : Ext w3 w5 := (by repeat (first | exact Ext.refl _ | assumption | refine Ext.alloc ?_ _ | refine Ext.drew ?_ | refine Ext.drewN ?_ _ | refine Ext.setCell ?_ (by first | (simp; done) | (simp; omega) | omega) _ | refine Ext.trans ?_ (by assumption)))
  clear ba00 ba01 ba0g
  have ba0 := Hba0.out.ext hE
  clear Hba0
  have ba00 := ba0.at0
  have ba01 := ba0.at1
  have ba0g := ba0.1
  have Hba0 := Lib.hid ba0
  clear ba0
  have tmp := Lib.hid (show NetAt w5 0 w.heap.size s0 k0 n0 from (H0.out.ext hE (by omega)))
  clear H0
  have H0 := tmp
  clear tmp
  have tmp := Lib.hid (show Ints w5 0 w.heap.size (.slice A1 l1.length c1) l1 from (Row.ext H1.out hE (by omega)))
  clear H1
  have H1 := tmp
  clear tmp
  have tmp := Lib.hid (show NetAt w5 0 w3.heap.size sv3 kv3 n0 from (R3.out.ext hE (by omega)))
  clear R3
  have R3 := tmp
  clear tmp
  have hz6 : w3.heap.size ≤ w5.heap.size := hE.size
  replace hx : Ext w w5 := hx.trans hE
  clear hE
  have R5 := Lib.hid (show Ints w5 0 w5.heap.size sv5 l1 from ho5.row (fun hn => ⟨Nat.zero_le _, ho5.lt hn⟩))
  clear ho5 hg5
  clear hx5
  go_wp2_with fail
  refine Calls.mono (spec_GiveUp sv3 kv3 sv5 n0 l1  _ (R3.out.up (by omega) (by repeat (first | exact Ext.refl _ | assumption | refine Ext.alloc ?_ _ | refine Ext.drew ?_ | refine Ext.drewN ?_ _ | refine Ext.setCell ?_ (by first | (simp; done) | (simp; omega) | omega) _ | refine Ext.trans ?_ (by assumption)))) (R5.out.upAt (by omega) (by repeat (first | exact Ext.refl _ | assumption | refine Ext.alloc ?_ _ | refine Ext.drew ?_ | refine Ext.drewN ?_ _ | refine Ext.setCell ?_ (by first | (simp; done) | (simp; omega) | omega) _ | refine Ext.trans ?_ (by assumption))))) ?_
  rintro e w7 ⟨gs7, gk7, rfl, hx7, hgo7⟩; obtain ⟨As7, cs7, rfl, _, _⟩ := hgo7.at_.1.len; obtain ⟨Ak7, ck7, rfl, _, _⟩ := hgo7.at_.2.len
  have hE : Ext w5 w7 := (by repeat (first | exact Ext.refl _ | assumption | refine Ext.alloc ?_ _ | refine Ext.drew ?_ | refine Ext.drewN ?_ _ | refine Ext.setCell ?_ (by first | (simp; done) | (simp; omega) | omega) _ | refine Ext.trans ?_ (by assumption)))
  clear ba00 ba01 ba0g
  have ba0 := Hba0.out.ext hE
  clear Hba0
  have ba00 := ba0.at0
  have ba01 := ba0.at1
  have ba0g := ba0.1
  have Hba0 := Lib.hid ba0
  clear ba0
  have tmp := Lib.hid (show NetAt w7 0 w.heap.size s0 k0 n0 from (H0.out.ext hE (by omega)))
  clear H0
  have H0 := tmp
  clear tmp
  have tmp := Lib.hid (show Ints w7 0 w.heap.size (.slice A1 l1.length c1) l1 from (Row.ext H1.out hE (by omega)))
  clear H1
  have H1 := tmp
  clear tmp
  have tmp := Lib.hid (show NetAt w7 0 w3.heap.size sv3 kv3 n0 from (R3.out.ext hE (by omega)))
  clear R3
  have R3 := tmp
  clear tmp
  have tmp := Lib.hid (show Ints w7 0 w5.heap.size sv5 l1 from (Row.ext R5.out hE (by omega)))
  clear R5
  have R5 := tmp
  clear tmp
  have hz8 : w5.heap.size ≤ w7.heap.size := hE.size
  replace hx : Ext w w7 := hx.trans hE
  clear hE
  clear R3
  clear R5
  have W := Lib.hid (show OwnNet w7 (w5.heap.size) w7.heap.size (.agg #[.slice As7 (gvV n0 l1).sets.length cs7, .slice Ak7 (gvV n0 l1).links.length ck7]) (gvV n0 l1) from hgo7)
  clear hgo7
  clear hx7
  go_wp2_with fail
  have hE : Ext w7 (w7.alloc (.cells #[.slice As7 (gvV n0 l1).sets.length cs7, .slice Ak7 (gvV n0 l1).links.length ck7] 32)) := (by repeat (first | exact Ext.refl _ | assumption | refine Ext.alloc ?_ _ | refine Ext.drew ?_ | refine Ext.drewN ?_ _ | refine Ext.setCell ?_ (by first | (simp; done) | (simp; omega) | omega) _ | refine Ext.trans ?_ (by assumption)))
  clear ba00 ba01 ba0g
  have ba0 := Hba0.out.ext hE
  clear Hba0
  have ba00 := ba0.at0
  have ba01 := ba0.at1
  have ba0g := ba0.1
  have Hba0 := Lib.hid ba0
  clear ba0
  have tmp := Lib.hid (show NetAt (w7.alloc (.cells #[.slice As7 (gvV n0 l1).sets.length cs7, .slice Ak7 (gvV n0 l1).links.length ck7] 32)) 0 w.heap.size s0 k0 n0 from (H0.out.ext hE (by omega)))
  clear H0
  have H0 := tmp
  clear tmp
  have tmp := Lib.hid (show Ints (w7.alloc (.cells #[.slice As7 (gvV n0 l1).sets.length cs7, .slice Ak7 (gvV n0 l1).links.length ck7] 32)) 0 w.heap.size (.slice A1 l1.length c1) l1 from (Row.ext H1.out hE (by omega)))
  clear H1
  have H1 := tmp
  clear tmp
  have tmp := Lib.hid (show OwnNet (w7.alloc (.cells #[.slice As7 (gvV n0 l1).sets.length cs7, .slice Ak7 (gvV n0 l1).links.length ck7] 32)) (w5.heap.size) w7.heap.size (.agg #[.slice As7 (gvV n0 l1).sets.length cs7, .slice Ak7 (gvV n0 l1).links.length ck7]) (gvV n0 l1) from (W.out.ext' hE (by omega)))
  clear W
  have W := tmp
  clear tmp
  have hz9 : w7.heap.size ≤ (w7.alloc (.cells #[.slice As7 (gvV n0 l1).sets.length cs7, .slice Ak7 (gvV n0 l1).links.length ck7] 32)).heap.size := hE.size
  replace hx : Ext w (w7.alloc (.cells #[.slice As7 (gvV n0 l1).sets.length cs7, .slice Ak7 (gvV n0 l1).links.length ck7] 32)) := hx.trans hE
  clear hE
  have Hbw := Lib.hid (Boxed.new w7 [.slice As7 (gvV n0 l1).sets.length cs7, .slice Ak7 (gvV n0 l1).links.length ck7] 32)
  have bw := Hbw.out
  clear Hbw
  have bw0 := bw.at0
  have bw1 := bw.at1
  have bwg := bw.1
  have Hbw := Lib.hid bw
  clear bw
  have hzb10 : (w7.alloc (.cells #[.slice As7 (gvV n0 l1).sets.length cs7, .slice Ak7 (gvV n0 l1).links.length ck7] 32)).heap.size = w7.heap.size + 1 := World.size_alloc _ _
  refine Calls.mono (laws_toNetwork s0 k0 n0 _ (H0.out.up (by omega) (by repeat (first | exact Ext.refl _ | assumption | refine Ext.alloc ?_ _ | refine Ext.drew ?_ | refine Ext.drewN ?_ _ | refine Ext.setCell ?_ (by first | (simp; done) | (simp; omega) | omega) _ | refine Ext.trans ?_ (by assumption)))) Hsm0.out) ?_
  rintro e w11 ⟨sv11, kv11, rfl, hx11, ho11⟩
  have hE : Ext (w7.alloc (.cells #[.slice As7 (gvV n0 l1).sets.length cs7, .slice Ak7 (gvV n0 l1).links.length ck7] 32)) w11 := (by repeat (first | exact Ext.refl _ | assumption | refine Ext.alloc ?_ _ | refine Ext.drew ?_ | refine Ext.drewN ?_ _ | refine Ext.setCell ?_ (by first | (simp; done) | (simp; omega) | omega) _ | refine Ext.trans ?_ (by assumption)))
  clear ba00 ba01 ba0g
  have ba0 := Hba0.out.ext hE
  clear Hba0
  have ba00 := ba0.at0
  have ba01 := ba0.at1
  have ba0g := ba0.1
  have Hba0 := Lib.hid ba0
  clear ba0
  clear bw0 bw1 bwg
  have bw := Hbw.out.ext hE
  clear Hbw
  have bw0 := bw.at0
  have bw1 := bw.at1
  have bwg := bw.1
  have Hbw := Lib.hid bw
  clear bw
  have tmp := Lib.hid (show NetAt w11 0 w.heap.size s0 k0 n0 from (H0.out.ext hE (by omega)))
  clear H0
  have H0 := tmp
  clear tmp
  have tmp := Lib.hid (show Ints w11 0 w.heap.size (.slice A1 l1.length c1) l1 from (Row.ext H1.out hE (by omega)))
  clear H1
  have H1 := tmp
  clear tmp
  have tmp := Lib.hid (show OwnNet w11 (w5.heap.size) w7.heap.size (.agg #[.slice As7 (gvV n0 l1).sets.length cs7, .slice Ak7 (gvV n0 l1).links.length ck7]) (gvV n0 l1) from (W.out.ext' hE (by omega)))
  clear W
  have W := tmp
  clear tmp
  have hz12 : (w7.alloc (.cells #[.slice As7 (gvV n0 l1).sets.length cs7, .slice Ak7 (gvV n0 l1).links.length ck7] 32)).heap.size ≤ w11.heap.size := hE.size
  replace hx : Ext w w11 := hx.trans hE
  clear hE
  obtain ⟨As11, cs11, rfl, _, _⟩ := ho11.at_.1.len
  obtain ⟨Ak11, ck11, rfl, _, _⟩ := ho11.at_.2.len
  have X0 := Lib.hid (show OwnNet w11 ((w7.alloc (.cells #[.slice As7 (gvV n0 l1).sets.length cs7, .slice Ak7 (gvV n0 l1).links.length ck7] 32)).heap.size) w11.heap.size (.agg #[.slice As11 (n0).sets.length cs11, .slice Ak11 (n0).links.length ck11]) n0 from ho11)
  clear ho11
  clear hx11
  go_wp2_with fail
  have hE : Ext w11 (w11.alloc (.cells #[.slice As11 (n0).sets.length cs11, .slice Ak11 (n0).links.length ck11] 32)) := (by repeat (first | exact Ext.refl _ | assumption | refine Ext.alloc ?_ _ | refine Ext.drew ?_ | refine Ext.drewN ?_ _ | refine Ext.setCell ?_ (by first | (simp; done) | (simp; omega) | omega) _ | refine Ext.trans ?_ (by assumption)))
  clear ba00 ba01 ba0g
  have ba0 := Hba0.out.ext hE
  clear Hba0
  have ba00 := ba0.at0
  have ba01 := ba0.at1
  have ba0g := ba0.1
  have Hba0 := Lib.hid ba0
  clear ba0
  clear bw0 bw1 bwg
  have bw := Hbw.out.ext hE
  clear Hbw
  have bw0 := bw.at0
  have bw1 := bw.at1
  have bwg := bw.1
  have Hbw := Lib.hid bw
  clear bw
  have tmp := Lib.hid (show NetAt (w11.alloc (.cells #[.slice As11 (n0).sets.length cs11, .slice Ak11 (n0).links.length ck11] 32)) 0 w.heap.size s0 k0 n0 from (H0.out.ext hE (by omega)))
  clear H0
  have H0 := tmp
  clear tmp
  have tmp := Lib.hid (show Ints (w11.alloc (.cells #[.slice As11 (n0).sets.length cs11, .slice Ak11 (n0).links.length ck11] 32)) 0 w.heap.size (.slice A1 l1.length c1) l1 from (Row.ext H1.out hE (by omega)))
  clear H1
  have H1 := tmp
  clear tmp
  have tmp := Lib.hid (show OwnNet (w11.alloc (.cells #[.slice As11 (n0).sets.length cs11, .slice Ak11 (n0).links.length ck11] 32)) (w5.heap.size) w7.heap.size (.agg #[.slice As7 (gvV n0 l1).sets.length cs7, .slice Ak7 (gvV n0 l1).links.length ck7]) (gvV n0 l1) from (W.out.ext' hE (by omega)))
  clear W
  have W := tmp
  clear tmp
  have tmp := Lib.hid (show OwnNet (w11.alloc (.cells #[.slice As11 (n0).sets.length cs11, .slice Ak11 (n0).links.length ck11] 32)) ((w7.alloc (.cells #[.slice As7 (gvV n0 l1).sets.length cs7, .slice Ak7 (gvV n0 l1).links.length ck7] 32)).heap.size) w11.heap.size (.agg #[.slice As11 (n0).sets.length cs11, .slice Ak11 (n0).links.length ck11]) n0 from (X0.out.ext' hE (by omega)))
  clear X0
  have X0 := tmp
  clear tmp
  have hz13 : w11.heap.size ≤ (w11.alloc (.cells #[.slice As11 (n0).sets.length cs11, .slice Ak11 (n0).links.length ck11] 32)).heap.size := hE.size
  replace hx : Ext w (w11.alloc (.cells #[.slice As11 (n0).sets.length cs11, .slice Ak11 (n0).links.length ck11] 32)) := hx.trans hE
  clear hE
  have Hbx0 := Lib.hid (Boxed.new w11 [.slice As11 (n0).sets.length cs11, .slice Ak11 (n0).links.length ck11] 32)
  have bx0 := Hbx0.out
  clear Hbx0
  have bx00 := bx0.at0
  have bx01 := bx0.at1
  have bx0g := bx0.1
  have Hbx0 := Lib.hid bx0
  clear bx0
  have hzb14 : (w11.alloc (.cells #[.slice As11 (n0).sets.length cs11, .slice Ak11 (n0).links.length ck11] 32)).heap.size = w11.heap.size + 1 := World.size_alloc _ _
  refine Calls.mono (laws_toInt64S _ l1 0 _ _ (H1.out.upAt (by omega) (by repeat (first | exact Ext.refl _ | assumption | refine Ext.alloc ?_ _ | refine Ext.drew ?_ | refine Ext.drewN ?_ _ | refine Ext.setCell ?_ (by first | (simp; done) | (simp; omega) | omega) _ | refine Ext.trans ?_ (by assumption)))) (Nat.le_refl _) Hsm1.out) ?_
  rintro e w15 ⟨sv15, gv15, rfl, hx15, hg15, ho15⟩
  have hE : Ext (w11.alloc (.cells #[.slice As11 (n0).sets.length cs11, .slice Ak11 (n0).links.length ck11] 32)) w15 := (by repeat (first | exact Ext.refl _ | assumption | refine Ext.alloc ?_ _ | refine Ext.drew ?_ | refine Ext.drewN ?_ _ | refine Ext.setCell ?_ (by first | (simp; done) | (simp; omega) | omega) _ | refine Ext.trans ?_ (by assumption)))
  clear ba00 ba01 ba0g
  have ba0 := Hba0.out.ext hE
  clear Hba0
  have ba00 := ba0.at0
  have ba01 := ba0.at1
  have ba0g := ba0.1
  have Hba0 := Lib.hid ba0
  clear ba0
  clear bw0 bw1 bwg
  have bw := Hbw.out.ext hE
  clear Hbw
  have bw0 := bw.at0
  have bw1 := bw.at1
  have bwg := bw.1
  have Hbw := Lib.hid bw
  clear bw
  clear bx00 bx01 bx0g
  have bx0 := Hbx0.out.ext hE
  clear Hbx0
  have bx00 := bx0.at0
  have bx01 := bx0.at1
  have bx0g := bx0.1
  have Hbx0 := Lib.hid bx0
  clear bx0
  have tmp := Lib.hid (show NetAt w15 0 w.heap.size s0 k0 n0 from (H0.out.ext hE (by omega)))
  clear H0
  have H0 := tmp
  clear tmp
  have tmp := Lib.hid (show Ints w15 0 w.heap.size (.slice A1 l1.length c1) l1 from (Row.ext H1.out hE (by omega)))
  clear H1
  have H1 := tmp
  clear tmp
  have tmp := Lib.hid (show OwnNet w15 (w5.heap.size) w7.heap.size (.agg #[.slice As7 (gvV n0 l1).sets.length cs7, .slice Ak7 (gvV n0 l1).links.length ck7]) (gvV n0 l1) from (W.out.ext' hE (by omega)))
  clear W
  have W := tmp
  clear tmp
  have tmp := Lib.hid (show OwnNet w15 ((w7.alloc (.cells #[.slice As7 (gvV n0 l1).sets.length cs7, .slice Ak7 (gvV n0 l1).links.length ck7] 32)).heap.size) w11.heap.size (.agg #[.slice As11 (n0).sets.length cs11, .slice Ak11 (n0).links.length ck11]) n0 from (X0.out.ext' hE (by omega)))
  clear X0
  have X0 := tmp
  clear tmp
  have hz16 : (w11.alloc (.cells #[.slice As11 (n0).sets.length cs11, .slice Ak11 (n0).links.length ck11] 32)).heap.size ≤ w15.heap.size := hE.size
  replace hx : Ext w w15 := hx.trans hE
  clear hE
  have X1 := Lib.hid (show OwnInts w15 ((w11.alloc (.cells #[.slice As11 (n0).sets.length cs11, .slice Ak11 (n0).links.length ck11] 32)).heap.size) w15.heap.size sv15 l1 from ⟨gv15, fun hn => ⟨by have := hg15 hn; omega, ho15.lt hn⟩, ho15⟩)
  clear ho15 hg15
  clear hx15
  go_wp2_with fail
  refine Calls.mono (impl_GiveUp (.slice As11 (n0).sets.length cs11) (.slice Ak11 (n0).links.length ck11) sv15 n0 l1  _ (NetAt.up X0.out.at_ (by omega) (by repeat (first | exact Ext.refl _ | assumption | refine Ext.alloc ?_ _ | refine Ext.drew ?_ | refine Ext.drewN ?_ _ | refine Ext.setCell ?_ (by first | (simp; done) | (simp; omega) | omega) _ | refine Ext.trans ?_ (by assumption)))) (Ints.upAt X1.out.ints (by omega) (by repeat (first | exact Ext.refl _ | assumption | refine Ext.alloc ?_ _ | refine Ext.drew ?_ | refine Ext.drewN ?_ _ | refine Ext.setCell ?_ (by first | (simp; done) | (simp; omega) | omega) _ | refine Ext.trans ?_ (by assumption))))) ?_
  rintro e w17 ⟨gs17, gk17, rfl, hx17, hgo17⟩; obtain ⟨As17, cs17, rfl, _, _⟩ := hgo17.at_.1.len; obtain ⟨Ak17, ck17, rfl, _, _⟩ := hgo17.at_.2.len
  have hE : Ext w15 w17 := (by repeat (first | exact Ext.refl _ | assumption | refine Ext.alloc ?_ _ | refine Ext.drew ?_ | refine Ext.drewN ?_ _ | refine Ext.setCell ?_ (by first | (simp; done) | (simp; omega) | omega) _ | refine Ext.trans ?_ (by assumption)))
  clear ba00 ba01 ba0g
  have ba0 := Hba0.out.ext hE
  clear Hba0
  have ba00 := ba0.at0
  have ba01 := ba0.at1
  have ba0g := ba0.1
  have Hba0 := Lib.hid ba0
  clear ba0
  clear bw0 bw1 bwg
  have bw := Hbw.out.ext hE
  clear Hbw
  have bw0 := bw.at0
  have bw1 := bw.at1
  have bwg := bw.1
  have Hbw := Lib.hid bw
  clear bw
  clear bx00 bx01 bx0g
  have bx0 := Hbx0.out.ext hE
  clear Hbx0
  have bx00 := bx0.at0
  have bx01 := bx0.at1
  have bx0g := bx0.1
  have Hbx0 := Lib.hid bx0
  clear bx0
  have tmp := Lib.hid (show NetAt w17 0 w.heap.size s0 k0 n0 from (H0.out.ext hE (by omega)))
  clear H0
  have H0 := tmp
  clear tmp
  have tmp := Lib.hid (show Ints w17 0 w.heap.size (.slice A1 l1.length c1) l1 from (Row.ext H1.out hE (by omega)))
  clear H1
  have H1 := tmp
  clear tmp
  have tmp := Lib.hid (show OwnNet w17 (w5.heap.size) w7.heap.size (.agg #[.slice As7 (gvV n0 l1).sets.length cs7, .slice Ak7 (gvV n0 l1).links.length ck7]) (gvV n0 l1) from (W.out.ext' hE (by omega)))
  clear W
  have W := tmp
  clear tmp
  have tmp := Lib.hid (show OwnNet w17 ((w7.alloc (.cells #[.slice As7 (gvV n0 l1).sets.length cs7, .slice Ak7 (gvV n0 l1).links.length ck7] 32)).heap.size) w11.heap.size (.agg #[.slice As11 (n0).sets.length cs11, .slice Ak11 (n0).links.length ck11]) n0 from (X0.out.ext' hE (by omega)))
  clear X0
  have X0 := tmp
  clear tmp
  have tmp := Lib.hid (show OwnInts w17 ((w11.alloc (.cells #[.slice As11 (n0).sets.length cs11, .slice Ak11 (n0).links.length ck11] 32)).heap.size) w15.heap.size sv15 l1 from (X1.out.ext hE (by omega)))
  clear X1
  have X1 := tmp
  clear tmp
  have hz18 : w15.heap.size ≤ w17.heap.size := hE.size
  replace hx : Ext w w17 := hx.trans hE
  clear hE
  have G := Lib.hid (show OwnNet w17 (w15.heap.size) w17.heap.size (.agg #[.slice As17 (gvV n0 l1).sets.length cs17, .slice Ak17 (gvV n0 l1).links.length ck17]) (gvV n0 l1) from hgo17)
  clear hgo17
  clear hx17
  go_wp2_with fail
  have hE : Ext w17 (w17.alloc (.cells #[.slice As17 (gvV n0 l1).sets.length cs17, .slice Ak17 (gvV n0 l1).links.length ck17] 32)) := (by repeat (first | exact Ext.refl _ | assumption | refine Ext.alloc ?_ _ | refine Ext.drew ?_ | refine Ext.drewN ?_ _ | refine Ext.setCell ?_ (by first | (simp; done) | (simp; omega) | omega) _ | refine Ext.trans ?_ (by assumption)))
  clear ba00 ba01 ba0g
  have ba0 := Hba0.out.ext hE
  clear Hba0
  have ba00 := ba0.at0
  have ba01 := ba0.at1
  have ba0g := ba0.1
  have Hba0 := Lib.hid ba0
  clear ba0
  clear bw0 bw1 bwg
  have bw := Hbw.out.ext hE
  clear Hbw
  have bw0 := bw.at0
  have bw1 := bw.at1
  have bwg := bw.1
  have Hbw := Lib.hid bw
  clear bw
  clear bx00 bx01 bx0g
  have bx0 := Hbx0.out.ext hE
  clear Hbx0
  have bx00 := bx0.at0
  have bx01 := bx0.at1
  have bx0g := bx0.1
  have Hbx0 := Lib.hid bx0
  clear bx0
  have tmp := Lib.hid (show NetAt (w17.alloc (.cells #[.slice As17 (gvV n0 l1).sets.length cs17, .slice Ak17 (gvV n0 l1).links.length ck17] 32)) 0 w.heap.size s0 k0 n0 from (H0.out.ext hE (by omega)))
  clear H0
  have H0 := tmp
  clear tmp
  have tmp := Lib.hid (show Ints (w17.alloc (.cells #[.slice As17 (gvV n0 l1).sets.length cs17, .slice Ak17 (gvV n0 l1).links.length ck17] 32)) 0 w.heap.size (.slice A1 l1.length c1) l1 from (Row.ext H1.out hE (by omega)))
  clear H1
  have H1 := tmp
  clear tmp
  have tmp := Lib.hid (show OwnNet (w17.alloc (.cells #[.slice As17 (gvV n0 l1).sets.length cs17, .slice Ak17 (gvV n0 l1).links.length ck17] 32)) (w5.heap.size) w7.heap.size (.agg #[.slice As7 (gvV n0 l1).sets.length cs7, .slice Ak7 (gvV n0 l1).links.length ck7]) (gvV n0 l1) from (W.out.ext' hE (by omega)))
  clear W
  have W := tmp
  clear tmp
  have tmp := Lib.hid (show OwnNet (w17.alloc (.cells #[.slice As17 (gvV n0 l1).sets.length cs17, .slice Ak17 (gvV n0 l1).links.length ck17] 32)) ((w7.alloc (.cells #[.slice As7 (gvV n0 l1).sets.length cs7, .slice Ak7 (gvV n0 l1).links.length ck7] 32)).heap.size) w11.heap.size (.agg #[.slice As11 (n0).sets.length cs11, .slice Ak11 (n0).links.length ck11]) n0 from (X0.out.ext' hE (by omega)))
  clear X0
  have X0 := tmp
  clear tmp
  have tmp := Lib.hid (show OwnInts (w17.alloc (.cells #[.slice As17 (gvV n0 l1).sets.length cs17, .slice Ak17 (gvV n0 l1).links.length ck17] 32)) ((w11.alloc (.cells #[.slice As11 (n0).sets.length cs11, .slice Ak11 (n0).links.length ck11] 32)).heap.size) w15.heap.size sv15 l1 from (X1.out.ext hE (by omega)))
  clear X1
  have X1 := tmp
  clear tmp
  have tmp := Lib.hid (show OwnNet (w17.alloc (.cells #[.slice As17 (gvV n0 l1).sets.length cs17, .slice Ak17 (gvV n0 l1).links.length ck17] 32)) (w15.heap.size) w17.heap.size (.agg #[.slice As17 (gvV n0 l1).sets.length cs17, .slice Ak17 (gvV n0 l1).links.length ck17]) (gvV n0 l1) from (G.out.ext' hE (by omega)))
  clear G
  have G := tmp
  clear tmp
  have hz19 : w17.heap.size ≤ (w17.alloc (.cells #[.slice As17 (gvV n0 l1).sets.length cs17, .slice Ak17 (gvV n0 l1).links.length ck17] 32)).heap.size := hE.size
  replace hx : Ext w (w17.alloc (.cells #[.slice As17 (gvV n0 l1).sets.length cs17, .slice Ak17 (gvV n0 l1).links.length ck17] 32)) := hx.trans hE
  clear hE
  have Hbg := Lib.hid (Boxed.new w17 [.slice As17 (gvV n0 l1).sets.length cs17, .slice Ak17 (gvV n0 l1).links.length ck17] 32)
  have bg := Hbg.out
  clear Hbg
  have bg0 := bg.at0
  have bg1 := bg.at1
  have bgg := bg.1
  have Hbg := Lib.hid bg
  clear bg
  have hzb20 : (w17.alloc (.cells #[.slice As17 (gvV n0 l1).sets.length cs17, .slice Ak17 (gvV n0 l1).links.length ck17] 32)).heap.size = w17.heap.size + 1 := World.size_alloc _ _
  refine Calls.mono (laws_eqNetwork _ _ _ _ (gvV n0 l1) _ (NetAt.up G.out.at_ (by omega) (by repeat (first | exact Ext.refl _ | assumption | refine Ext.alloc ?_ _ | refine Ext.drew ?_ | refine Ext.drewN ?_ _ | refine Ext.setCell ?_ (by first | (simp; done) | (simp; omega) | omega) _ | refine Ext.trans ?_ (by assumption)))) (NetAt.up W.out.at_ (by omega) (by repeat (first | exact Ext.refl _ | assumption | refine Ext.alloc ?_ _ | refine Ext.drew ?_ | refine Ext.drewN ?_ _ | refine Ext.setCell ?_ (by first | (simp; done) | (simp; omega) | omega) _ | refine Ext.trans ?_ (by assumption))))) ?_
  rintro e w21 ⟨rfl, hx21⟩
  have hE : Ext (w17.alloc (.cells #[.slice As17 (gvV n0 l1).sets.length cs17, .slice Ak17 (gvV n0 l1).links.length ck17] 32)) w21 := (by repeat (first | exact Ext.refl _ | assumption | refine Ext.alloc ?_ _ | refine Ext.drew ?_ | refine Ext.drewN ?_ _ | refine Ext.setCell ?_ (by first | (simp; done) | (simp; omega) | omega) _ | refine Ext.trans ?_ (by assumption)))
  clear ba00 ba01 ba0g
  have ba0 := Hba0.out.ext hE
  clear Hba0
  have ba00 := ba0.at0
  have ba01 := ba0.at1
  have ba0g := ba0.1
  have Hba0 := Lib.hid ba0
  clear ba0
  clear bw0 bw1 bwg
  have bw := Hbw.out.ext hE
  clear Hbw
  have bw0 := bw.at0
  have bw1 := bw.at1
  have bwg := bw.1
  have Hbw := Lib.hid bw
  clear bw
  clear bx00 bx01 bx0g
  have bx0 := Hbx0.out.ext hE
  clear Hbx0
  have bx00 := bx0.at0
  have bx01 := bx0.at1
  have bx0g := bx0.1
  have Hbx0 := Lib.hid bx0
  clear bx0
  clear bg0 bg1 bgg
  have bg := Hbg.out.ext hE
  clear Hbg
  have bg0 := bg.at0
  have bg1 := bg.at1
  have bgg := bg.1
  have Hbg := Lib.hid bg
  clear bg
  have tmp := Lib.hid (show NetAt w21 0 w.heap.size s0 k0 n0 from (H0.out.ext hE (by omega)))
  clear H0
  have H0 := tmp
  clear tmp
  have tmp := Lib.hid (show Ints w21 0 w.heap.size (.slice A1 l1.length c1) l1 from (Row.ext H1.out hE (by omega)))
  clear H1
  have H1 := tmp
  clear tmp
  have tmp := Lib.hid (show OwnNet w21 (w5.heap.size) w7.heap.size (.agg #[.slice As7 (gvV n0 l1).sets.length cs7, .slice Ak7 (gvV n0 l1).links.length ck7]) (gvV n0 l1) from (W.out.ext' hE (by omega)))
  clear W
  have W := tmp
  clear tmp
  have tmp := Lib.hid (show OwnNet w21 ((w7.alloc (.cells #[.slice As7 (gvV n0 l1).sets.length cs7, .slice Ak7 (gvV n0 l1).links.length ck7] 32)).heap.size) w11.heap.size (.agg #[.slice As11 (n0).sets.length cs11, .slice Ak11 (n0).links.length ck11]) n0 from (X0.out.ext' hE (by omega)))
  clear X0
  have X0 := tmp
  clear tmp
  have tmp := Lib.hid (show OwnInts w21 ((w11.alloc (.cells #[.slice As11 (n0).sets.length cs11, .slice Ak11 (n0).links.length ck11] 32)).heap.size) w15.heap.size sv15 l1 from (X1.out.ext hE (by omega)))
  clear X1
  have X1 := tmp
  clear tmp
  have tmp := Lib.hid (show OwnNet w21 (w15.heap.size) w17.heap.size (.agg #[.slice As17 (gvV n0 l1).sets.length cs17, .slice Ak17 (gvV n0 l1).links.length ck17]) (gvV n0 l1) from (G.out.ext' hE (by omega)))
  clear G
  have G := tmp
  clear tmp
  have hz22 : (w17.alloc (.cells #[.slice As17 (gvV n0 l1).sets.length cs17, .slice Ak17 (gvV n0 l1).links.length ck17] 32)).heap.size ≤ w21.heap.size := hE.size
  replace hx : Ext w w21 := hx.trans hE
  clear hE
  clear hx21
  go_wp2_with fail
  go_region_held3 (fun w' => w'.cell? ⟨w.heap.size, 0, none⟩ = some (s0) ∧ w'.cell? ⟨w.heap.size, 1, none⟩ = some (k0) ∧ w'.cell? ⟨w7.heap.size, 0, none⟩ = some (.slice As7 (gvV n0 l1).sets.length cs7) ∧ w'.cell? ⟨w7.heap.size, 1, none⟩ = some (.slice Ak7 (gvV n0 l1).links.length ck7) ∧ w'.cell? ⟨w11.heap.size, 0, none⟩ = some (.slice As11 (n0).sets.length cs11) ∧ w'.cell? ⟨w11.heap.size, 1, none⟩ = some (.slice Ak11 (n0).links.length ck11) ∧ w'.cell? ⟨w17.heap.size, 0, none⟩ = some (.slice As17 (gvV n0 l1).sets.length cs17) ∧ w'.cell? ⟨w17.heap.size, 1, none⟩ = some (.slice Ak17 (gvV n0 l1).links.length ck17) ∧ Ext w21 w')
    (exact Ext.and_cell ba0g ba00 (by repeat (first | exact Ext.refl _ | assumption | refine Ext.alloc ?_ _ | refine Ext.drew ?_ | refine Ext.drewN ?_ _ | refine Ext.setCell ?_ (by first | (simp; done) | (simp; omega) | omega) _ | refine Ext.trans ?_ (by assumption))) (Ext.and_cell ba0g ba01 (by repeat (first | exact Ext.refl _ | assumption | refine Ext.alloc ?_ _ | refine Ext.drew ?_ | refine Ext.drewN ?_ _ | refine Ext.setCell ?_ (by first | (simp; done) | (simp; omega) | omega) _ | refine Ext.trans ?_ (by assumption))) (Ext.and_cell bwg bw0 (by repeat (first | exact Ext.refl _ | assumption | refine Ext.alloc ?_ _ | refine Ext.drew ?_ | refine Ext.drewN ?_ _ | refine Ext.setCell ?_ (by first | (simp; done) | (simp; omega) | omega) _ | refine Ext.trans ?_ (by assumption))) (Ext.and_cell bwg bw1 (by repeat (first | exact Ext.refl _ | assumption | refine Ext.alloc ?_ _ | refine Ext.drew ?_ | refine Ext.drewN ?_ _ | refine Ext.setCell ?_ (by first | (simp; done) | (simp; omega) | omega) _ | refine Ext.trans ?_ (by assumption))) (Ext.and_cell bx0g bx00 (by repeat (first | exact Ext.refl _ | assumption | refine Ext.alloc ?_ _ | refine Ext.drew ?_ | refine Ext.drewN ?_ _ | refine Ext.setCell ?_ (by first | (simp; done) | (simp; omega) | omega) _ | refine Ext.trans ?_ (by assumption))) (Ext.and_cell bx0g bx01 (by repeat (first | exact Ext.refl _ | assumption | refine Ext.alloc ?_ _ | refine Ext.drew ?_ | refine Ext.drewN ?_ _ | refine Ext.setCell ?_ (by first | (simp; done) | (simp; omega) | omega) _ | refine Ext.trans ?_ (by assumption))) (Ext.and_cell bgg bg0 (by repeat (first | exact Ext.refl _ | assumption | refine Ext.alloc ?_ _ | refine Ext.drew ?_ | refine Ext.drewN ?_ _ | refine Ext.setCell ?_ (by first | (simp; done) | (simp; omega) | omega) _ | refine Ext.trans ?_ (by assumption))) (Ext.and_cell bgg bg1 (by repeat (first | exact Ext.refl _ | assumption | refine Ext.alloc ?_ _ | refine Ext.drew ?_ | refine Ext.drewN ?_ _ | refine Ext.setCell ?_ (by first | (simp; done) | (simp; omega) | omega) _ | refine Ext.trans ?_ (by assumption))) (by repeat (first | exact Ext.refl _ | assumption | refine Ext.alloc ?_ _ | refine Ext.drew ?_ | refine Ext.drewN ?_ _ | refine Ext.setCell ?_ (by first | (simp; done) | (simp; omega) | omega) _ | refine Ext.trans ?_ (by assumption)))))))))))
    (first
      | (go_at_call 16; refine Calls.mono (laws_toNetwork s0 k0 n0 _ (H0.out.up (by omega) (by repeat (first | exact Ext.refl _ | assumption | refine Ext.alloc ?_ _ | refine Ext.drew ?_ | refine Ext.drewN ?_ _ | refine Ext.setCell ?_ (by first | (simp; done) | (simp; omega) | omega) _ | refine Ext.trans ?_ (by assumption)))) Hsm0.out) ?_; rintro e w23 ⟨sv23, kv23, rfl, hx23, ho23⟩)
      | (go_at_call 18; refine Calls.mono (laws_eqNetwork _ _ _ _ n0 _ (NetAt.up X0.out.at_ (by omega) (by repeat (first | exact Ext.refl _ | assumption | refine Ext.alloc ?_ _ | refine Ext.drew ?_ | refine Ext.drewN ?_ _ | refine Ext.setCell ?_ (by first | (simp; done) | (simp; omega) | omega) _ | refine Ext.trans ?_ (by assumption)))) ((show NetIn w23 sv23 kv23 n0 from ho23.net.netIn).up (by repeat (first | exact Ext.refl _ | assumption | refine Ext.alloc ?_ _ | refine Ext.drew ?_ | refine Ext.drewN ?_ _ | refine Ext.setCell ?_ (by first | (simp; done) | (simp; omega) | omega) _ | refine Ext.trans ?_ (by assumption))))) ?_; rintro e w24 ⟨rfl, hx24⟩))
  have hE : Ext w21 w24 := (by repeat (first | exact Ext.refl _ | assumption | refine Ext.alloc ?_ _ | refine Ext.drew ?_ | refine Ext.drewN ?_ _ | refine Ext.setCell ?_ (by first | (simp; done) | (simp; omega) | omega) _ | refine Ext.trans ?_ (by assumption)))
  clear ba00 ba01 ba0g
  have ba0 := Hba0.out.ext hE
  clear Hba0
  have ba00 := ba0.at0
  have ba01 := ba0.at1
  have ba0g := ba0.1
  have Hba0 := Lib.hid ba0
  clear ba0
  clear bw0 bw1 bwg
  have bw := Hbw.out.ext hE
  clear Hbw
  have bw0 := bw.at0
  have bw1 := bw.at1
  have bwg := bw.1
  have Hbw := Lib.hid bw
  clear bw
  clear bx00 bx01 bx0g
  have bx0 := Hbx0.out.ext hE
  clear Hbx0
  have bx00 := bx0.at0
  have bx01 := bx0.at1
  have bx0g := bx0.1
  have Hbx0 := Lib.hid bx0
  clear bx0
  clear bg0 bg1 bgg
  have bg := Hbg.out.ext hE
  clear Hbg
  have bg0 := bg.at0
  have bg1 := bg.at1
  have bgg := bg.1
  have Hbg := Lib.hid bg
  clear bg
  have tmp := Lib.hid (show NetAt w24 0 w.heap.size s0 k0 n0 from (H0.out.ext hE (by omega)))
  clear H0
  have H0 := tmp
  clear tmp
  have tmp := Lib.hid (show Ints w24 0 w.heap.size (.slice A1 l1.length c1) l1 from (Row.ext H1.out hE (by omega)))
  clear H1
  have H1 := tmp
  clear tmp
  have tmp := Lib.hid (show OwnNet w24 (w5.heap.size) w7.heap.size (.agg #[.slice As7 (gvV n0 l1).sets.length cs7, .slice Ak7 (gvV n0 l1).links.length ck7]) (gvV n0 l1) from (W.out.ext' hE (by omega)))
  clear W
  have W := tmp
  clear tmp
  have tmp := Lib.hid (show OwnNet w24 ((w7.alloc (.cells #[.slice As7 (gvV n0 l1).sets.length cs7, .slice Ak7 (gvV n0 l1).links.length ck7] 32)).heap.size) w11.heap.size (.agg #[.slice As11 (n0).sets.length cs11, .slice Ak11 (n0).links.length ck11]) n0 from (X0.out.ext' hE (by omega)))
  clear X0
  have X0 := tmp
  clear tmp
  have tmp := Lib.hid (show OwnInts w24 ((w11.alloc (.cells #[.slice As11 (n0).sets.length cs11, .slice Ak11 (n0).links.length ck11] 32)).heap.size) w15.heap.size sv15 l1 from (X1.out.ext hE (by omega)))
  clear X1
  have X1 := tmp
  clear tmp
  have tmp := Lib.hid (show OwnNet w24 (w15.heap.size) w17.heap.size (.agg #[.slice As17 (gvV n0 l1).sets.length cs17, .slice Ak17 (gvV n0 l1).links.length ck17]) (gvV n0 l1) from (G.out.ext' hE (by omega)))
  clear G
  have G := tmp
  clear tmp
  have hz25 : w21.heap.size ≤ w24.heap.size := hE.size
  replace hx : Ext w w24 := hx.trans hE
  clear hE
  clear hx23 ho23 hx24
  go_wp2_with fail
  refine Calls.mono (laws_toInt64S _ l1 0 _ _ (H1.out.upAt (by omega) (by repeat (first | exact Ext.refl _ | assumption | refine Ext.alloc ?_ _ | refine Ext.drew ?_ | refine Ext.drewN ?_ _ | refine Ext.setCell ?_ (by first | (simp; done) | (simp; omega) | omega) _ | refine Ext.trans ?_ (by assumption)))) (Nat.le_refl _) Hsm1.out) ?_
  rintro e w26 ⟨sv26, gv26, rfl, hx26, hg26, ho26⟩
  have hE : Ext w24 w26 := (by repeat (first | exact Ext.refl _ | assumption | refine Ext.alloc ?_ _ | refine Ext.drew ?_ | refine Ext.drewN ?_ _ | refine Ext.setCell ?_ (by first | (simp; done) | (simp; omega) | omega) _ | refine Ext.trans ?_ (by assumption)))
  clear ba00 ba01 ba0g
  have ba0 := Hba0.out.ext hE
  clear Hba0
  have ba00 := ba0.at0
  have ba01 := ba0.at1
  have ba0g := ba0.1
  have Hba0 := Lib.hid ba0
  clear ba0
  clear bw0 bw1 bwg
  have bw := Hbw.out.ext hE
  clear Hbw
  have bw0 := bw.at0
  have bw1 := bw.at1
  have bwg := bw.1
  have Hbw := Lib.hid bw
  clear bw
  clear bx00 bx01 bx0g
  have bx0 := Hbx0.out.ext hE
  clear Hbx0
  have bx00 := bx0.at0
  have bx01 := bx0.at1
  have bx0g := bx0.1
  have Hbx0 := Lib.hid bx0
  clear bx0
  clear bg0 bg1 bgg
  have bg := Hbg.out.ext hE
  clear Hbg
  have bg0 := bg.at0
  have bg1 := bg.at1
  have bgg := bg.1
  have Hbg := Lib.hid bg
  clear bg
  have tmp := Lib.hid (show NetAt w26 0 w.heap.size s0 k0 n0 from (H0.out.ext hE (by omega)))
  clear H0
  have H0 := tmp
  clear tmp
  have tmp := Lib.hid (show Ints w26 0 w.heap.size (.slice A1 l1.length c1) l1 from (Row.ext H1.out hE (by omega)))
  clear H1
  have H1 := tmp
  clear tmp
  have tmp := Lib.hid (show OwnNet w26 (w5.heap.size) w7.heap.size (.agg #[.slice As7 (gvV n0 l1).sets.length cs7, .slice Ak7 (gvV n0 l1).links.length ck7]) (gvV n0 l1) from (W.out.ext' hE (by omega)))
  clear W
  have W := tmp
  clear tmp
  have tmp := Lib.hid (show OwnNet w26 ((w7.alloc (.cells #[.slice As7 (gvV n0 l1).sets.length cs7, .slice Ak7 (gvV n0 l1).links.length ck7] 32)).heap.size) w11.heap.size (.agg #[.slice As11 (n0).sets.length cs11, .slice Ak11 (n0).links.length ck11]) n0 from (X0.out.ext' hE (by omega)))
  clear X0
  have X0 := tmp
  clear tmp
  have tmp := Lib.hid (show OwnInts w26 ((w11.alloc (.cells #[.slice As11 (n0).sets.length cs11, .slice Ak11 (n0).links.length ck11] 32)).heap.size) w15.heap.size sv15 l1 from (X1.out.ext hE (by omega)))
  clear X1
  have X1 := tmp
  clear tmp
  have tmp := Lib.hid (show OwnNet w26 (w15.heap.size) w17.heap.size (.agg #[.slice As17 (gvV n0 l1).sets.length cs17, .slice Ak17 (gvV n0 l1).links.length ck17]) (gvV n0 l1) from (G.out.ext' hE (by omega)))
  clear G
  have G := tmp
  clear tmp
  have hz28 : w24.heap.size ≤ w26.heap.size := hE.size
  replace hx : Ext w w26 := hx.trans hE
  clear hE
  have R26 := Lib.hid (show Ints w26 0 w26.heap.size _ l1 from ho26.row (fun hn => ⟨Nat.zero_le _, ho26.lt hn⟩))
  clear hx26 hg26 ho26
  go_wp2_with fail
  refine Calls.mono (laws_eqInt64S _ _ l1 _ (Ints.upAt X1.out.ints (by omega) (by repeat (first | exact Ext.refl _ | assumption | refine Ext.alloc ?_ _ | refine Ext.drew ?_ | refine Ext.drewN ?_ _ | refine Ext.setCell ?_ (by first | (simp; done) | (simp; omega) | omega) _ | refine Ext.trans ?_ (by assumption)))) (R26.out.up (by repeat (first | exact Ext.refl _ | assumption | refine Ext.alloc ?_ _ | refine Ext.drew ?_ | refine Ext.drewN ?_ _ | refine Ext.setCell ?_ (by first | (simp; done) | (simp; omega) | omega) _ | refine Ext.trans ?_ (by assumption))))) ?_
  rintro e w27 ⟨rfl, hx27⟩
  have hE : Ext w26 w27 := (by repeat (first | exact Ext.refl _ | assumption | refine Ext.alloc ?_ _ | refine Ext.drew ?_ | refine Ext.drewN ?_ _ | refine Ext.setCell ?_ (by first | (simp; done) | (simp; omega) | omega) _ | refine Ext.trans ?_ (by assumption)))
  clear ba00 ba01 ba0g
  have ba0 := Hba0.out.ext hE
  clear Hba0
  have ba00 := ba0.at0
  have ba01 := ba0.at1
  have ba0g := ba0.1
  have Hba0 := Lib.hid ba0
  clear ba0
  clear bw0 bw1 bwg
  have bw := Hbw.out.ext hE
  clear Hbw
  have bw0 := bw.at0
  have bw1 := bw.at1
  have bwg := bw.1
  have Hbw := Lib.hid bw
  clear bw
  clear bx00 bx01 bx0g
  have bx0 := Hbx0.out.ext hE
  clear Hbx0
  have bx00 := bx0.at0
  have bx01 := bx0.at1
  have bx0g := bx0.1
  have Hbx0 := Lib.hid bx0
  clear bx0
  clear bg0 bg1 bgg
  have bg := Hbg.out.ext hE
  clear Hbg
  have bg0 := bg.at0
  have bg1 := bg.at1
  have bgg := bg.1
  have Hbg := Lib.hid bg
  clear bg
  have tmp := Lib.hid (show NetAt w27 0 w.heap.size s0 k0 n0 from (H0.out.ext hE (by omega)))
  clear H0
  have H0 := tmp
  clear tmp
  have tmp := Lib.hid (show Ints w27 0 w.heap.size (.slice A1 l1.length c1) l1 from (Row.ext H1.out hE (by omega)))
  clear H1
  have H1 := tmp
  clear tmp
  have tmp := Lib.hid (show OwnNet w27 (w5.heap.size) w7.heap.size (.agg #[.slice As7 (gvV n0 l1).sets.length cs7, .slice Ak7 (gvV n0 l1).links.length ck7]) (gvV n0 l1) from (W.out.ext' hE (by omega)))
  clear W
  have W := tmp
  clear tmp
  have tmp := Lib.hid (show OwnNet w27 ((w7.alloc (.cells #[.slice As7 (gvV n0 l1).sets.length cs7, .slice Ak7 (gvV n0 l1).links.length ck7] 32)).heap.size) w11.heap.size (.agg #[.slice As11 (n0).sets.length cs11, .slice Ak11 (n0).links.length ck11]) n0 from (X0.out.ext' hE (by omega)))
  clear X0
  have X0 := tmp
  clear tmp
  have tmp := Lib.hid (show OwnInts w27 ((w11.alloc (.cells #[.slice As11 (n0).sets.length cs11, .slice Ak11 (n0).links.length ck11] 32)).heap.size) w15.heap.size sv15 l1 from (X1.out.ext hE (by omega)))
  clear X1
  have X1 := tmp
  clear tmp
  have tmp := Lib.hid (show OwnNet w27 (w15.heap.size) w17.heap.size (.agg #[.slice As17 (gvV n0 l1).sets.length cs17, .slice Ak17 (gvV n0 l1).links.length ck17]) (gvV n0 l1) from (G.out.ext' hE (by omega)))
  clear G
  have G := tmp
  clear tmp
  have hz29 : w26.heap.size ≤ w27.heap.size := hE.size
  replace hx : Ext w w27 := hx.trans hE
  clear hE
  clear hx27 R26
  go_wp2_with fail
  have hnc30 := netCells_le n0 Hsm0.out
  refine Calls.mono (laws_markNetwork _ _ _ _ n0 (1) _ X0.out (by omega) Hsm0.out (by omega) (by omega)) ?_
  rintro e w30 ⟨rfl, hO, hm30⟩
  clear hm30 X0
  clear ba00 ba01 ba0g
  have ba0 := Hba0.out.off hO (fun hh => by have h3 := hh.1; have h4 := hh.2; omega)
  clear Hba0
  have ba00 := ba0.at0
  have ba01 := ba0.at1
  have ba0g := ba0.1
  have Hba0 := Lib.hid ba0
  clear ba0
  clear bw0 bw1 bwg
  have bw := Hbw.out.off hO (fun hh => by have h3 := hh.1; have h4 := hh.2; omega)
  clear Hbw
  have bw0 := bw.at0
  have bw1 := bw.at1
  have bwg := bw.1
  have Hbw := Lib.hid bw
  clear bw
  clear bx00 bx01 bx0g
  have bx0 := Hbx0.out.off hO (fun hh => by have h3 := hh.1; have h4 := hh.2; omega)
  clear Hbx0
  have bx00 := bx0.at0
  have bx01 := bx0.at1
  have bx0g := bx0.1
  have Hbx0 := Lib.hid bx0
  clear bx0
  clear bg0 bg1 bgg
  have bg := Hbg.out.off hO (fun hh => by have h3 := hh.1; have h4 := hh.2; omega)
  clear Hbg
  have bg0 := bg.at0
  have bg1 := bg.at1
  have bgg := bg.1
  have Hbg := Lib.hid bg
  clear bg
  have tmp := Lib.hid (show NetAt w30 0 w.heap.size s0 k0 n0 from (H0.out.off hO (fun x h1 h2 hh => by have h3 := hh.1; have h4 := hh.2; omega) (by omega)))
  clear H0
  have H0 := tmp
  clear tmp
  have tmp := Lib.hid (show Ints w30 0 w.heap.size (.slice A1 l1.length c1) l1 from (Row.off H1.out hO (fun x h1 h2 hh => by have h3 := hh.1; have h4 := hh.2; omega) (by omega)))
  clear H1
  have H1 := tmp
  clear tmp
  have tmp := Lib.hid (show OwnNet w30 (w5.heap.size) w7.heap.size (.agg #[.slice As7 (gvV n0 l1).sets.length cs7, .slice Ak7 (gvV n0 l1).links.length ck7]) (gvV n0 l1) from (W.out.off' hO (fun x h1 h2 hh => by have h3 := hh.1; have h4 := hh.2; omega) (by omega)))
  clear W
  have W := tmp
  clear tmp
  have tmp := Lib.hid (show OwnInts w30 ((w11.alloc (.cells #[.slice As11 (n0).sets.length cs11, .slice Ak11 (n0).links.length ck11] 32)).heap.size) w15.heap.size sv15 l1 from (X1.out.off hO (fun x h1 h2 hh => by have h3 := hh.1; have h4 := hh.2; omega) (by omega)))
  clear X1
  have X1 := tmp
  clear tmp
  have tmp := Lib.hid (show OwnNet w30 (w15.heap.size) w17.heap.size (.agg #[.slice As17 (gvV n0 l1).sets.length cs17, .slice Ak17 (gvV n0 l1).links.length ck17]) (gvV n0 l1) from (G.out.off' hO (fun x h1 h2 hh => by have h3 := hh.1; have h4 := hh.2; omega) (by omega)))
  clear G
  have G := tmp
  clear tmp
  have hz31 : w27.heap.size ≤ w30.heap.size := hO.size
  replace hx : Ext w w30 := hx.off hO (fun x h1 hh => by have h3 := hh.1; omega)
  clear hO
  obtain ⟨m30, hmm30⟩ : ∃ m : Int, (1 : Int) + netCells n0 = m := ⟨_, rfl⟩
  rw [hmm30]
  go_wp2_with fail
  have hnc32 := Hsm1.out
  refine Calls.mono (markInts _ _ _ l1 (m30) _ X1.out Hsm1.out (by omega) (by omega)) ?_
  rintro e w32 ⟨rfl, hO, hm32⟩
  clear hm32 X1
  clear ba00 ba01 ba0g
  have ba0 := Hba0.out.off hO (fun hh => by have h3 := hh.1; have h4 := hh.2; omega)
  clear Hba0
  have ba00 := ba0.at0
  have ba01 := ba0.at1
  have ba0g := ba0.1
  have Hba0 := Lib.hid ba0
  clear ba0
  clear bw0 bw1 bwg
  have bw := Hbw.out.off hO (fun hh => by have h3 := hh.1; have h4 := hh.2; omega)
  clear Hbw
  have bw0 := bw.at0
  have bw1 := bw.at1
  have bwg := bw.1
  have Hbw := Lib.hid bw
  clear bw
  clear bx00 bx01 bx0g
  have bx0 := Hbx0.out.off hO (fun hh => by have h3 := hh.1; have h4 := hh.2; omega)
  clear Hbx0
  have bx00 := bx0.at0
  have bx01 := bx0.at1
  have bx0g := bx0.1
  have Hbx0 := Lib.hid bx0
  clear bx0
  clear bg0 bg1 bgg
  have bg := Hbg.out.off hO (fun hh => by have h3 := hh.1; have h4 := hh.2; omega)
  clear Hbg
  have bg0 := bg.at0
  have bg1 := bg.at1
  have bgg := bg.1
  have Hbg := Lib.hid bg
  clear bg
  have tmp := Lib.hid (show NetAt w32 0 w.heap.size s0 k0 n0 from (H0.out.off hO (fun x h1 h2 hh => by have h3 := hh.1; have h4 := hh.2; omega) (by omega)))
  clear H0
  have H0 := tmp
  clear tmp
  have tmp := Lib.hid (show Ints w32 0 w.heap.size (.slice A1 l1.length c1) l1 from (Row.off H1.out hO (fun x h1 h2 hh => by have h3 := hh.1; have h4 := hh.2; omega) (by omega)))
  clear H1
  have H1 := tmp
  clear tmp
  have tmp := Lib.hid (show OwnNet w32 (w5.heap.size) w7.heap.size (.agg #[.slice As7 (gvV n0 l1).sets.length cs7, .slice Ak7 (gvV n0 l1).links.length ck7]) (gvV n0 l1) from (W.out.off' hO (fun x h1 h2 hh => by have h3 := hh.1; have h4 := hh.2; omega) (by omega)))
  clear W
  have W := tmp
  clear tmp
  have tmp := Lib.hid (show OwnNet w32 (w15.heap.size) w17.heap.size (.agg #[.slice As17 (gvV n0 l1).sets.length cs17, .slice Ak17 (gvV n0 l1).links.length ck17]) (gvV n0 l1) from (G.out.off' hO (fun x h1 h2 hh => by have h3 := hh.1; have h4 := hh.2; omega) (by omega)))
  clear G
  have G := tmp
  clear tmp
  have hz33 : w30.heap.size ≤ w32.heap.size := hO.size
  replace hx : Ext w w32 := hx.off hO (fun x h1 hh => by have h3 := hh.1; omega)
  clear hO
  obtain ⟨m32, hmm32⟩ : ∃ m : Int, (m30 : Int) + l1.length = m := ⟨_, rfl⟩
  rw [hmm32]
  have hmn : decide (m32 < 0) = false := decide_eq_false (by omega)
  go_wp2_with fail
  refine Calls.mono (laws_eqNetwork _ _ _ _ (gvV n0 l1) _ (NetAt.up G.out.at_ (by omega) (by repeat (first | exact Ext.refl _ | assumption | refine Ext.alloc ?_ _ | refine Ext.drew ?_ | refine Ext.drewN ?_ _ | refine Ext.setCell ?_ (by first | (simp; done) | (simp; omega) | omega) _ | refine Ext.trans ?_ (by assumption)))) (NetAt.up W.out.at_ (by omega) (by repeat (first | exact Ext.refl _ | assumption | refine Ext.alloc ?_ _ | refine Ext.drew ?_ | refine Ext.drewN ?_ _ | refine Ext.setCell ?_ (by first | (simp; done) | (simp; omega) | omega) _ | refine Ext.trans ?_ (by assumption))))) ?_
  rintro e w34 ⟨rfl, hx34⟩
  have hE : Ext w32 w34 := (by repeat (first | exact Ext.refl _ | assumption | refine Ext.alloc ?_ _ | refine Ext.drew ?_ | refine Ext.drewN ?_ _ | refine Ext.setCell ?_ (by first | (simp; done) | (simp; omega) | omega) _ | refine Ext.trans ?_ (by assumption)))
  clear ba00 ba01 ba0g
  have ba0 := Hba0.out.ext hE
  clear Hba0
  have ba00 := ba0.at0
  have ba01 := ba0.at1
  have ba0g := ba0.1
  have Hba0 := Lib.hid ba0
  clear ba0
  clear bw0 bw1 bwg
  have bw := Hbw.out.ext hE
  clear Hbw
  have bw0 := bw.at0
  have bw1 := bw.at1
  have bwg := bw.1
  have Hbw := Lib.hid bw
  clear bw
  clear bx00 bx01 bx0g
  have bx0 := Hbx0.out.ext hE
  clear Hbx0
  have bx00 := bx0.at0
  have bx01 := bx0.at1
  have bx0g := bx0.1
  have Hbx0 := Lib.hid bx0
  clear bx0
  clear bg0 bg1 bgg
  have bg := Hbg.out.ext hE
  clear Hbg
  have bg0 := bg.at0
  have bg1 := bg.at1
  have bgg := bg.1
  have Hbg := Lib.hid bg
  clear bg
  have tmp := Lib.hid (show NetAt w34 0 w.heap.size s0 k0 n0 from (H0.out.ext hE (by omega)))
  clear H0
  have H0 := tmp
  clear tmp
  have tmp := Lib.hid (show Ints w34 0 w.heap.size (.slice A1 l1.length c1) l1 from (Row.ext H1.out hE (by omega)))
  clear H1
  have H1 := tmp
  clear tmp
  have tmp := Lib.hid (show OwnNet w34 (w5.heap.size) w7.heap.size (.agg #[.slice As7 (gvV n0 l1).sets.length cs7, .slice Ak7 (gvV n0 l1).links.length ck7]) (gvV n0 l1) from (W.out.ext' hE (by omega)))
  clear W
  have W := tmp
  clear tmp
  have tmp := Lib.hid (show OwnNet w34 (w15.heap.size) w17.heap.size (.agg #[.slice As17 (gvV n0 l1).sets.length cs17, .slice Ak17 (gvV n0 l1).links.length ck17]) (gvV n0 l1) from (G.out.ext' hE (by omega)))
  clear G
  have G := tmp
  clear tmp
  have hz35 : w32.heap.size ≤ w34.heap.size := hE.size
  replace hx : Ext w w34 := hx.trans hE
  clear hE
  clear hx34
  go_wp2_with fail
  have HsR := Lib.hid (gvV_small n0 l1)
  have hnc36 := netCells_le _ HsR.out
  refine Calls.mono (laws_markNetwork _ _ _ _ (gvV n0 l1) 1 _ G.out (by omega) HsR.out (by omega) (by omega)) ?_
  rintro e w36 ⟨rfl, hO, hm36⟩
  clear G
  clear ba00 ba01 ba0g
  have ba0 := Hba0.out.off hO (fun hh => by have h3 := hh.1; have h4 := hh.2; omega)
  clear Hba0
  have ba00 := ba0.at0
  have ba01 := ba0.at1
  have ba0g := ba0.1
  have Hba0 := Lib.hid ba0
  clear ba0
  clear bw0 bw1 bwg
  have bw := Hbw.out.off hO (fun hh => by have h3 := hh.1; have h4 := hh.2; omega)
  clear Hbw
  have bw0 := bw.at0
  have bw1 := bw.at1
  have bwg := bw.1
  have Hbw := Lib.hid bw
  clear bw
  clear bx00 bx01 bx0g
  have bx0 := Hbx0.out.off hO (fun hh => by have h3 := hh.1; have h4 := hh.2; omega)
  clear Hbx0
  have bx00 := bx0.at0
  have bx01 := bx0.at1
  have bx0g := bx0.1
  have Hbx0 := Lib.hid bx0
  clear bx0
  clear bg0 bg1 bgg
  have bg := Hbg.out.off hO (fun hh => by have h3 := hh.1; have h4 := hh.2; omega)
  clear Hbg
  have bg0 := bg.at0
  have bg1 := bg.at1
  have bgg := bg.1
  have Hbg := Lib.hid bg
  clear bg
  have tmp := Lib.hid (show NetAt w36 0 w.heap.size s0 k0 n0 from (H0.out.off hO (fun x h1 h2 hh => by have h3 := hh.1; have h4 := hh.2; omega) (by omega)))
  clear H0
  have H0 := tmp
  clear tmp
  have tmp := Lib.hid (show Ints w36 0 w.heap.size (.slice A1 l1.length c1) l1 from (Row.off H1.out hO (fun x h1 h2 hh => by have h3 := hh.1; have h4 := hh.2; omega) (by omega)))
  clear H1
  have H1 := tmp
  clear tmp
  have tmp := Lib.hid (show OwnNet w36 (w5.heap.size) w7.heap.size (.agg #[.slice As7 (gvV n0 l1).sets.length cs7, .slice Ak7 (gvV n0 l1).links.length ck7]) (gvV n0 l1) from (W.out.off' hO (fun x h1 h2 hh => by have h3 := hh.1; have h4 := hh.2; omega) (by omega)))
  clear W
  have W := tmp
  clear tmp
  have hz37 : w34.heap.size ≤ w36.heap.size := hO.size
  replace hx : Ext w w36 := hx.off hO (fun x h1 hh => by have h3 := hh.1; omega)
  clear hO
  have G := Lib.hid (show MarkedNet w36 (w15.heap.size) (w17.heap.size) (.agg #[.slice As17 (gvV n0 l1).sets.length cs17, .slice Ak17 (gvV n0 l1).links.length ck17]) (gvV n0 l1) 1 from hm36)
  clear hm36
  obtain ⟨m, hmm⟩ : ∃ m : Int, (1 : Int) + netCells (gvV n0 l1) = m := ⟨_, rfl⟩
  rw [hmm]
  have hmz : decide (m < 0) = false := decide_eq_false (by omega)
  have hme : (m != m) = false := bne_self_eq_false m
  go_wp2_with fail
  refine Calls.mono (laws_heldNetwork _ _ _ _ (gvV n0 l1) 1 _ G.out (by omega) HsR.out (by omega) (by omega)) ?_
  rintro e w38 ⟨rfl, hx38⟩
  have hE : Ext w36 w38 := (by repeat (first | exact Ext.refl _ | assumption | refine Ext.alloc ?_ _ | refine Ext.drew ?_ | refine Ext.drewN ?_ _ | refine Ext.setCell ?_ (by first | (simp; done) | (simp; omega) | omega) _ | refine Ext.trans ?_ (by assumption)))
  clear ba00 ba01 ba0g
  have ba0 := Hba0.out.ext hE
  clear Hba0
  have ba00 := ba0.at0
  have ba01 := ba0.at1
  have ba0g := ba0.1
  have Hba0 := Lib.hid ba0
  clear ba0
  clear bw0 bw1 bwg
  have bw := Hbw.out.ext hE
  clear Hbw
  have bw0 := bw.at0
  have bw1 := bw.at1
  have bwg := bw.1
  have Hbw := Lib.hid bw
  clear bw
  clear bx00 bx01 bx0g
  have bx0 := Hbx0.out.ext hE
  clear Hbx0
  have bx00 := bx0.at0
  have bx01 := bx0.at1
  have bx0g := bx0.1
  have Hbx0 := Lib.hid bx0
  clear bx0
  clear bg0 bg1 bgg
  have bg := Hbg.out.ext hE
  clear Hbg
  have bg0 := bg.at0
  have bg1 := bg.at1
  have bgg := bg.1
  have Hbg := Lib.hid bg
  clear bg
  have tmp := Lib.hid (show NetAt w38 0 w.heap.size s0 k0 n0 from (H0.out.ext hE (by omega)))
  clear H0
  have H0 := tmp
  clear tmp
  have tmp := Lib.hid (show Ints w38 0 w.heap.size (.slice A1 l1.length c1) l1 from (Row.ext H1.out hE (by omega)))
  clear H1
  have H1 := tmp
  clear tmp
  have tmp := Lib.hid (show OwnNet w38 (w5.heap.size) w7.heap.size (.agg #[.slice As7 (gvV n0 l1).sets.length cs7, .slice Ak7 (gvV n0 l1).links.length ck7]) (gvV n0 l1) from (W.out.ext' hE (by omega)))
  clear W
  have W := tmp
  clear tmp
  have tmp := Lib.hid (show MarkedNet w38 (w15.heap.size) (w17.heap.size) (.agg #[.slice As17 (gvV n0 l1).sets.length cs17, .slice Ak17 (gvV n0 l1).links.length ck17]) (gvV n0 l1) 1 from (G.out.ext hE (by omega)))
  clear G
  have G := tmp
  clear tmp
  have hz39 : w36.heap.size ≤ w38.heap.size := hE.size
  replace hx : Ext w w38 := hx.trans hE
  clear hE
  clear hx38
  rw [hmm]
  go_wp2_with fail
  refine Calls.mono (laws_toNetwork s0 k0 n0 _ (H0.out.up (by omega) (by repeat (first | exact Ext.refl _ | assumption | refine Ext.alloc ?_ _ | refine Ext.drew ?_ | refine Ext.drewN ?_ _ | refine Ext.setCell ?_ (by first | (simp; done) | (simp; omega) | omega) _ | refine Ext.trans ?_ (by assumption)))) Hsm0.out) ?_
  rintro e w40 ⟨sv40, kv40, rfl, hx40, ho40⟩
  have hE : Ext w38 w40 := (by repeat (first | exact Ext.refl _ | assumption | refine Ext.alloc ?_ _ | refine Ext.drew ?_ | refine Ext.drewN ?_ _ | refine Ext.setCell ?_ (by first | (simp; done) | (simp; omega) | omega) _ | refine Ext.trans ?_ (by assumption)))
  clear ba00 ba01 ba0g
  have ba0 := Hba0.out.ext hE
  clear Hba0
  have ba00 := ba0.at0
  have ba01 := ba0.at1
  have ba0g := ba0.1
  have Hba0 := Lib.hid ba0
  clear ba0
  clear bw0 bw1 bwg
  have bw := Hbw.out.ext hE
  clear Hbw
  have bw0 := bw.at0
  have bw1 := bw.at1
  have bwg := bw.1
  have Hbw := Lib.hid bw
  clear bw
  clear bx00 bx01 bx0g
  have bx0 := Hbx0.out.ext hE
  clear Hbx0
  have bx00 := bx0.at0
  have bx01 := bx0.at1
  have bx0g := bx0.1
  have Hbx0 := Lib.hid bx0
  clear bx0
  clear bg0 bg1 bgg
  have bg := Hbg.out.ext hE
  clear Hbg
  have bg0 := bg.at0
  have bg1 := bg.at1
  have bgg := bg.1
  have Hbg := Lib.hid bg
  clear bg
  have tmp := Lib.hid (show NetAt w40 0 w.heap.size s0 k0 n0 from (H0.out.ext hE (by omega)))
  clear H0
  have H0 := tmp
  clear tmp
  have tmp := Lib.hid (show Ints w40 0 w.heap.size (.slice A1 l1.length c1) l1 from (Row.ext H1.out hE (by omega)))
  clear H1
  have H1 := tmp
  clear tmp
  have tmp := Lib.hid (show OwnNet w40 (w5.heap.size) w7.heap.size (.agg #[.slice As7 (gvV n0 l1).sets.length cs7, .slice Ak7 (gvV n0 l1).links.length ck7]) (gvV n0 l1) from (W.out.ext' hE (by omega)))
  clear W
  have W := tmp
  clear tmp
  have tmp := Lib.hid (show MarkedNet w40 (w15.heap.size) (w17.heap.size) (.agg #[.slice As17 (gvV n0 l1).sets.length cs17, .slice Ak17 (gvV n0 l1).links.length ck17]) (gvV n0 l1) 1 from (G.out.ext hE (by omega)))
  clear G
  have G := tmp
  clear tmp
  have hz41 : w38.heap.size ≤ w40.heap.size := hE.size
  replace hx : Ext w w40 := hx.trans hE
  clear hE
  have R40 := Lib.hid (show NetAt w40 0 w40.heap.size sv40 kv40 n0 from ho40.net.netIn)
  clear ho40
  clear hx40
  go_wp2_with fail
  refine Calls.mono (laws_toInt64S _ l1 0 _ _ (H1.out.upAt (by omega) (by repeat (first | exact Ext.refl _ | assumption | refine Ext.alloc ?_ _ | refine Ext.drew ?_ | refine Ext.drewN ?_ _ | refine Ext.setCell ?_ (by first | (simp; done) | (simp; omega) | omega) _ | refine Ext.trans ?_ (by assumption)))) (Nat.le_refl _) Hsm1.out) ?_
  rintro e w42 ⟨sv42, gv42, rfl, hx42, hg42, ho42⟩
  have hE : Ext w40 w42 := (by repeat (first | exact Ext.refl _ | assumption | refine Ext.alloc ?_ _ | refine Ext.drew ?_ | refine Ext.drewN ?_ _ | refine Ext.setCell ?_ (by first | (simp; done) | (simp; omega) | omega) _ | refine Ext.trans ?_ (by assumption)))
  clear ba00 ba01 ba0g
  have ba0 := Hba0.out.ext hE
  clear Hba0
  have ba00 := ba0.at0
  have ba01 := ba0.at1
  have ba0g := ba0.1
  have Hba0 := Lib.hid ba0
  clear ba0
  clear bw0 bw1 bwg
  have bw := Hbw.out.ext hE
  clear Hbw
  have bw0 := bw.at0
  have bw1 := bw.at1
  have bwg := bw.1
  have Hbw := Lib.hid bw
  clear bw
  clear bx00 bx01 bx0g
  have bx0 := Hbx0.out.ext hE
  clear Hbx0
  have bx00 := bx0.at0
  have bx01 := bx0.at1
  have bx0g := bx0.1
  have Hbx0 := Lib.hid bx0
  clear bx0
  clear bg0 bg1 bgg
  have bg := Hbg.out.ext hE
  clear Hbg
  have bg0 := bg.at0
  have bg1 := bg.at1
  have bgg := bg.1
  have Hbg := Lib.hid bg
  clear bg
  have tmp := Lib.hid (show NetAt w42 0 w.heap.size s0 k0 n0 from (H0.out.ext hE (by omega)))
  clear H0
  have H0 := tmp
  clear tmp
  have tmp := Lib.hid (show Ints w42 0 w.heap.size (.slice A1 l1.length c1) l1 from (Row.ext H1.out hE (by omega)))
  clear H1
  have H1 := tmp
  clear tmp
  have tmp := Lib.hid (show OwnNet w42 (w5.heap.size) w7.heap.size (.agg #[.slice As7 (gvV n0 l1).sets.length cs7, .slice Ak7 (gvV n0 l1).links.length ck7]) (gvV n0 l1) from (W.out.ext' hE (by omega)))
  clear W
  have W := tmp
  clear tmp
  have tmp := Lib.hid (show MarkedNet w42 (w15.heap.size) (w17.heap.size) (.agg #[.slice As17 (gvV n0 l1).sets.length cs17, .slice Ak17 (gvV n0 l1).links.length ck17]) (gvV n0 l1) 1 from (G.out.ext hE (by omega)))
  clear G
  have G := tmp
  clear tmp
  have tmp := Lib.hid (show NetAt w42 0 w40.heap.size sv40 kv40 n0 from (R40.out.ext hE (by omega)))
  clear R40
  have R40 := tmp
  clear tmp
  have hz43 : w40.heap.size ≤ w42.heap.size := hE.size
  replace hx : Ext w w42 := hx.trans hE
  clear hE
  have R42 := Lib.hid (show Ints w42 0 w42.heap.size sv42 l1 from ho42.row (fun hn => ⟨Nat.zero_le _, ho42.lt hn⟩))
  clear ho42 hg42
  clear hx42
  go_wp2_with fail
  refine Calls.mono (impl_GiveUp sv40 kv40 sv42 n0 l1  _ (R40.out.up (by omega) (by repeat (first | exact Ext.refl _ | assumption | refine Ext.alloc ?_ _ | refine Ext.drew ?_ | refine Ext.drewN ?_ _ | refine Ext.setCell ?_ (by first | (simp; done) | (simp; omega) | omega) _ | refine Ext.trans ?_ (by assumption)))) (R42.out.upAt (by omega) (by repeat (first | exact Ext.refl _ | assumption | refine Ext.alloc ?_ _ | refine Ext.drew ?_ | refine Ext.drewN ?_ _ | refine Ext.setCell ?_ (by first | (simp; done) | (simp; omega) | omega) _ | refine Ext.trans ?_ (by assumption))))) ?_
  rintro e w44 ⟨gs44, gk44, rfl, hx44, hgo44⟩; obtain ⟨As44, cs44, rfl, _, _⟩ := hgo44.at_.1.len; obtain ⟨Ak44, ck44, rfl, _, _⟩ := hgo44.at_.2.len
  have hE : Ext w42 w44 := (by repeat (first | exact Ext.refl _ | assumption | refine Ext.alloc ?_ _ | refine Ext.drew ?_ | refine Ext.drewN ?_ _ | refine Ext.setCell ?_ (by first | (simp; done) | (simp; omega) | omega) _ | refine Ext.trans ?_ (by assumption)))
  clear ba00 ba01 ba0g
  have ba0 := Hba0.out.ext hE
  clear Hba0
  have ba00 := ba0.at0
  have ba01 := ba0.at1
  have ba0g := ba0.1
  have Hba0 := Lib.hid ba0
  clear ba0
  clear bw0 bw1 bwg
  have bw := Hbw.out.ext hE
  clear Hbw
  have bw0 := bw.at0
  have bw1 := bw.at1
  have bwg := bw.1
  have Hbw := Lib.hid bw
  clear bw
  clear bx00 bx01 bx0g
  have bx0 := Hbx0.out.ext hE
  clear Hbx0
  have bx00 := bx0.at0
  have bx01 := bx0.at1
  have bx0g := bx0.1
  have Hbx0 := Lib.hid bx0
  clear bx0
  clear bg0 bg1 bgg
  have bg := Hbg.out.ext hE
  clear Hbg
  have bg0 := bg.at0
  have bg1 := bg.at1
  have bgg := bg.1
  have Hbg := Lib.hid bg
  clear bg
  have tmp := Lib.hid (show NetAt w44 0 w.heap.size s0 k0 n0 from (H0.out.ext hE (by omega)))
  clear H0
  have H0 := tmp
  clear tmp
  have tmp := Lib.hid (show Ints w44 0 w.heap.size (.slice A1 l1.length c1) l1 from (Row.ext H1.out hE (by omega)))
  clear H1
  have H1 := tmp
  clear tmp
  have tmp := Lib.hid (show OwnNet w44 (w5.heap.size) w7.heap.size (.agg #[.slice As7 (gvV n0 l1).sets.length cs7, .slice Ak7 (gvV n0 l1).links.length ck7]) (gvV n0 l1) from (W.out.ext' hE (by omega)))
  clear W
  have W := tmp
  clear tmp
  have tmp := Lib.hid (show MarkedNet w44 (w15.heap.size) (w17.heap.size) (.agg #[.slice As17 (gvV n0 l1).sets.length cs17, .slice Ak17 (gvV n0 l1).links.length ck17]) (gvV n0 l1) 1 from (G.out.ext hE (by omega)))
  clear G
  have G := tmp
  clear tmp
  have tmp := Lib.hid (show NetAt w44 0 w40.heap.size sv40 kv40 n0 from (R40.out.ext hE (by omega)))
  clear R40
  have R40 := tmp
  clear tmp
  have tmp := Lib.hid (show Ints w44 0 w42.heap.size sv42 l1 from (Row.ext R42.out hE (by omega)))
  clear R42
  have R42 := tmp
  clear tmp
  have hz45 : w42.heap.size ≤ w44.heap.size := hE.size
  replace hx : Ext w w44 := hx.trans hE
  clear hE
  clear R40
  clear R42
  have Hh := Lib.hid (show OwnNet w44 (w42.heap.size) w44.heap.size (.agg #[.slice As44 (gvV n0 l1).sets.length cs44, .slice Ak44 (gvV n0 l1).links.length ck44]) (gvV n0 l1) from hgo44)
  clear hgo44
  clear hx44
  go_wp2_with fail
  have hE : Ext w44 (w44.alloc (.cells #[.slice As44 (gvV n0 l1).sets.length cs44, .slice Ak44 (gvV n0 l1).links.length ck44] 32)) := (by repeat (first | exact Ext.refl _ | assumption | refine Ext.alloc ?_ _ | refine Ext.drew ?_ | refine Ext.drewN ?_ _ | refine Ext.setCell ?_ (by first | (simp; done) | (simp; omega) | omega) _ | refine Ext.trans ?_ (by assumption)))
  clear ba00 ba01 ba0g
  have ba0 := Hba0.out.ext hE
  clear Hba0
  have ba00 := ba0.at0
  have ba01 := ba0.at1
  have ba0g := ba0.1
  have Hba0 := Lib.hid ba0
  clear ba0
  clear bw0 bw1 bwg
  have bw := Hbw.out.ext hE
  clear Hbw
  have bw0 := bw.at0
  have bw1 := bw.at1
  have bwg := bw.1
  have Hbw := Lib.hid bw
  clear bw
  clear bx00 bx01 bx0g
  have bx0 := Hbx0.out.ext hE
  clear Hbx0
  have bx00 := bx0.at0
  have bx01 := bx0.at1
  have bx0g := bx0.1
  have Hbx0 := Lib.hid bx0
  clear bx0
  clear bg0 bg1 bgg
  have bg := Hbg.out.ext hE
  clear Hbg
  have bg0 := bg.at0
  have bg1 := bg.at1
  have bgg := bg.1
  have Hbg := Lib.hid bg
  clear bg
  have tmp := Lib.hid (show NetAt (w44.alloc (.cells #[.slice As44 (gvV n0 l1).sets.length cs44, .slice Ak44 (gvV n0 l1).links.length ck44] 32)) 0 w.heap.size s0 k0 n0 from (H0.out.ext hE (by omega)))
  clear H0
  have H0 := tmp
  clear tmp
  have tmp := Lib.hid (show Ints (w44.alloc (.cells #[.slice As44 (gvV n0 l1).sets.length cs44, .slice Ak44 (gvV n0 l1).links.length ck44] 32)) 0 w.heap.size (.slice A1 l1.length c1) l1 from (Row.ext H1.out hE (by omega)))
  clear H1
  have H1 := tmp
  clear tmp
  have tmp := Lib.hid (show OwnNet (w44.alloc (.cells #[.slice As44 (gvV n0 l1).sets.length cs44, .slice Ak44 (gvV n0 l1).links.length ck44] 32)) (w5.heap.size) w7.heap.size (.agg #[.slice As7 (gvV n0 l1).sets.length cs7, .slice Ak7 (gvV n0 l1).links.length ck7]) (gvV n0 l1) from (W.out.ext' hE (by omega)))
  clear W
  have W := tmp
  clear tmp
  have tmp := Lib.hid (show MarkedNet (w44.alloc (.cells #[.slice As44 (gvV n0 l1).sets.length cs44, .slice Ak44 (gvV n0 l1).links.length ck44] 32)) (w15.heap.size) (w17.heap.size) (.agg #[.slice As17 (gvV n0 l1).sets.length cs17, .slice Ak17 (gvV n0 l1).links.length ck17]) (gvV n0 l1) 1 from (G.out.ext hE (by omega)))
  clear G
  have G := tmp
  clear tmp
  have tmp := Lib.hid (show OwnNet (w44.alloc (.cells #[.slice As44 (gvV n0 l1).sets.length cs44, .slice Ak44 (gvV n0 l1).links.length ck44] 32)) (w42.heap.size) w44.heap.size (.agg #[.slice As44 (gvV n0 l1).sets.length cs44, .slice Ak44 (gvV n0 l1).links.length ck44]) (gvV n0 l1) from (Hh.out.ext' hE (by omega)))
  clear Hh
  have Hh := tmp
  clear tmp
  have hz46 : w44.heap.size ≤ (w44.alloc (.cells #[.slice As44 (gvV n0 l1).sets.length cs44, .slice Ak44 (gvV n0 l1).links.length ck44] 32)).heap.size := hE.size
  replace hx : Ext w (w44.alloc (.cells #[.slice As44 (gvV n0 l1).sets.length cs44, .slice Ak44 (gvV n0 l1).links.length ck44] 32)) := hx.trans hE
  clear hE
  have Hbh := Lib.hid (Boxed.new w44 [.slice As44 (gvV n0 l1).sets.length cs44, .slice Ak44 (gvV n0 l1).links.length ck44] 32)
  have bh := Hbh.out
  clear Hbh
  have bh0 := bh.at0
  have bh1 := bh.at1
  have bhg := bh.1
  have Hbh := Lib.hid bh
  clear bh
  have hzb47 : (w44.alloc (.cells #[.slice As44 (gvV n0 l1).sets.length cs44, .slice Ak44 (gvV n0 l1).links.length ck44] 32)).heap.size = w44.heap.size + 1 := World.size_alloc _ _
  refine Calls.mono (laws_eqNetwork _ _ _ _ (gvV n0 l1) _ (NetAt.up Hh.out.at_ (by omega) (by repeat (first | exact Ext.refl _ | assumption | refine Ext.alloc ?_ _ | refine Ext.drew ?_ | refine Ext.drewN ?_ _ | refine Ext.setCell ?_ (by first | (simp; done) | (simp; omega) | omega) _ | refine Ext.trans ?_ (by assumption)))) (NetAt.up W.out.at_ (by omega) (by repeat (first | exact Ext.refl _ | assumption | refine Ext.alloc ?_ _ | refine Ext.drew ?_ | refine Ext.drewN ?_ _ | refine Ext.setCell ?_ (by first | (simp; done) | (simp; omega) | omega) _ | refine Ext.trans ?_ (by assumption))))) ?_
  rintro e w48 ⟨rfl, hx48⟩
  have hE : Ext (w44.alloc (.cells #[.slice As44 (gvV n0 l1).sets.length cs44, .slice Ak44 (gvV n0 l1).links.length ck44] 32)) w48 := (by repeat (first | exact Ext.refl _ | assumption | refine Ext.alloc ?_ _ | refine Ext.drew ?_ | refine Ext.drewN ?_ _ | refine Ext.setCell ?_ (by first | (simp; done) | (simp; omega) | omega) _ | refine Ext.trans ?_ (by assumption)))
  clear ba00 ba01 ba0g
  have ba0 := Hba0.out.ext hE
  clear Hba0
  have ba00 := ba0.at0
  have ba01 := ba0.at1
  have ba0g := ba0.1
  have Hba0 := Lib.hid ba0
  clear ba0
  clear bw0 bw1 bwg
  have bw := Hbw.out.ext hE
  clear Hbw
  have bw0 := bw.at0
  have bw1 := bw.at1
  have bwg := bw.1
  have Hbw := Lib.hid bw
  clear bw
  clear bx00 bx01 bx0g
  have bx0 := Hbx0.out.ext hE
  clear Hbx0
  have bx00 := bx0.at0
  have bx01 := bx0.at1
  have bx0g := bx0.1
  have Hbx0 := Lib.hid bx0
  clear bx0
  clear bg0 bg1 bgg
  have bg := Hbg.out.ext hE
  clear Hbg
  have bg0 := bg.at0
  have bg1 := bg.at1
  have bgg := bg.1
  have Hbg := Lib.hid bg
  clear bg
  clear bh0 bh1 bhg
  have bh := Hbh.out.ext hE
  clear Hbh
  have bh0 := bh.at0
  have bh1 := bh.at1
  have bhg := bh.1
  have Hbh := Lib.hid bh
  clear bh
  have tmp := Lib.hid (show NetAt w48 0 w.heap.size s0 k0 n0 from (H0.out.ext hE (by omega)))
  clear H0
  have H0 := tmp
  clear tmp
  have tmp := Lib.hid (show Ints w48 0 w.heap.size (.slice A1 l1.length c1) l1 from (Row.ext H1.out hE (by omega)))
  clear H1
  have H1 := tmp
  clear tmp
  have tmp := Lib.hid (show OwnNet w48 (w5.heap.size) w7.heap.size (.agg #[.slice As7 (gvV n0 l1).sets.length cs7, .slice Ak7 (gvV n0 l1).links.length ck7]) (gvV n0 l1) from (W.out.ext' hE (by omega)))
  clear W
  have W := tmp
  clear tmp
  have tmp := Lib.hid (show MarkedNet w48 (w15.heap.size) (w17.heap.size) (.agg #[.slice As17 (gvV n0 l1).sets.length cs17, .slice Ak17 (gvV n0 l1).links.length ck17]) (gvV n0 l1) 1 from (G.out.ext hE (by omega)))
  clear G
  have G := tmp
  clear tmp
  have tmp := Lib.hid (show OwnNet w48 (w42.heap.size) w44.heap.size (.agg #[.slice As44 (gvV n0 l1).sets.length cs44, .slice Ak44 (gvV n0 l1).links.length ck44]) (gvV n0 l1) from (Hh.out.ext' hE (by omega)))
  clear Hh
  have Hh := tmp
  clear tmp
  have hz49 : (w44.alloc (.cells #[.slice As44 (gvV n0 l1).sets.length cs44, .slice Ak44 (gvV n0 l1).links.length ck44] 32)).heap.size ≤ w48.heap.size := hE.size
  replace hx : Ext w w48 := hx.trans hE
  clear hE
  clear hx48
  go_wp2_with fail
  refine Calls.mono (laws_heldNetwork _ _ _ _ (gvV n0 l1) 1 _ G.out (by omega) HsR.out (by omega) (by omega)) ?_
  rintro e w50 ⟨rfl, hx50⟩
  have hE : Ext w48 w50 := (by repeat (first | exact Ext.refl _ | assumption | refine Ext.alloc ?_ _ | refine Ext.drew ?_ | refine Ext.drewN ?_ _ | refine Ext.setCell ?_ (by first | (simp; done) | (simp; omega) | omega) _ | refine Ext.trans ?_ (by assumption)))
  clear ba00 ba01 ba0g
  have ba0 := Hba0.out.ext hE
  clear Hba0
  have ba00 := ba0.at0
  have ba01 := ba0.at1
  have ba0g := ba0.1
  have Hba0 := Lib.hid ba0
  clear ba0
  clear bw0 bw1 bwg
  have bw := Hbw.out.ext hE
  clear Hbw
  have bw0 := bw.at0
  have bw1 := bw.at1
  have bwg := bw.1
  have Hbw := Lib.hid bw
  clear bw
  clear bx00 bx01 bx0g
  have bx0 := Hbx0.out.ext hE
  clear Hbx0
  have bx00 := bx0.at0
  have bx01 := bx0.at1
  have bx0g := bx0.1
  have Hbx0 := Lib.hid bx0
  clear bx0
  clear bg0 bg1 bgg
  have bg := Hbg.out.ext hE
  clear Hbg
  have bg0 := bg.at0
  have bg1 := bg.at1
  have bgg := bg.1
  have Hbg := Lib.hid bg
  clear bg
  clear bh0 bh1 bhg
  have bh := Hbh.out.ext hE
  clear Hbh
  have bh0 := bh.at0
  have bh1 := bh.at1
  have bhg := bh.1
  have Hbh := Lib.hid bh
  clear bh
  have tmp := Lib.hid (show NetAt w50 0 w.heap.size s0 k0 n0 from (H0.out.ext hE (by omega)))
  clear H0
  have H0 := tmp
  clear tmp
  have tmp := Lib.hid (show Ints w50 0 w.heap.size (.slice A1 l1.length c1) l1 from (Row.ext H1.out hE (by omega)))
  clear H1
  have H1 := tmp
  clear tmp
  have tmp := Lib.hid (show OwnNet w50 (w5.heap.size) w7.heap.size (.agg #[.slice As7 (gvV n0 l1).sets.length cs7, .slice Ak7 (gvV n0 l1).links.length ck7]) (gvV n0 l1) from (W.out.ext' hE (by omega)))
  clear W
  have W := tmp
  clear tmp
  have tmp := Lib.hid (show MarkedNet w50 (w15.heap.size) (w17.heap.size) (.agg #[.slice As17 (gvV n0 l1).sets.length cs17, .slice Ak17 (gvV n0 l1).links.length ck17]) (gvV n0 l1) 1 from (G.out.ext hE (by omega)))
  clear G
  have G := tmp
  clear tmp
  have tmp := Lib.hid (show OwnNet w50 (w42.heap.size) w44.heap.size (.agg #[.slice As44 (gvV n0 l1).sets.length cs44, .slice Ak44 (gvV n0 l1).links.length ck44]) (gvV n0 l1) from (Hh.out.ext' hE (by omega)))
  clear Hh
  have Hh := tmp
  clear tmp
  have hz51 : w48.heap.size ≤ w50.heap.size := hE.size
  replace hx : Ext w w50 := hx.trans hE
  clear hE
  clear hx50
  rw [hmm]
  go_wp2_with fail
  go_ret
  exact ⟨rfl, hx⟩
end Go.Proofs.Ytkpoelgaomgjlaa
