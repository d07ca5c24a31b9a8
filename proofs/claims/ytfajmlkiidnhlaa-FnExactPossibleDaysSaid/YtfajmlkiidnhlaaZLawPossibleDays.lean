/- Texts merged: a claim holds at most sixty files. -/
import Derived.Test.YtfajmlkiidnhlaaZ41
import Derived.Test.YtfajmlkiidnhlaaZ05
import Derived.Deep.RegionHeld3
/- The law FnExactPossibleDays, walked out of the contracts of the program's PossibleDays and the reference's. -/
namespace Go.Proofs.Ytfajmlkiidnhlaa
set_option linter.unusedVariables false
set_option linter.unusedSimpArgs false
open Go.RowKit
attribute [local go_sem] cell_onto

set_option maxHeartbeats 4000000 in
theorem law_PossibleDays (s0 k0 : Value) (n0 : Net) (x1 : Int) (w : World) (h0 : NetIn w s0 k0 n0) (h1 : (Lit.int .i64 x1).wf = true) :
    Calls Try.prog 8 #[.agg #[s0, k0], .int .i64 x1] w (RetX (.bool true) w) := by
  have H0 := Lib.hid (show NetAt w 0 w.heap.size s0 k0 n0 from h0)
  clear h0
  have hx := Ext.refl w
  go_enter Try.func8, Try.ntmps8
  go_wp2_with fail
  refine Calls.mono (laws_szNetwork s0 k0 n0 1048576 _ (by omega) (by omega) (H0.out.up (by omega) (by repeat (first | exact Ext.refl _ | assumption | refine Ext.alloc ?_ _ | refine Ext.drew ?_ | refine Ext.drewN ?_ _ | refine Ext.setCell ?_ (by first | (simp; done) | (simp; omega) | omega) _ | refine Ext.trans ?_ (by assumption))))) ?_
  rintro e w1 ⟨r1, rfl, hx1, hra1, hrb1, hrc1⟩
  have hE : Ext w w1 := (by repeat (first | exact Ext.refl _ | assumption | refine Ext.alloc ?_ _ | refine Ext.drew ?_ | refine Ext.drewN ?_ _ | refine Ext.setCell ?_ (by first | (simp; done) | (simp; omega) | omega) _ | refine Ext.trans ?_ (by assumption)))
  have ba0 := (show Boxed w1 (w.heap.size) [s0, k0] from by have hb' := ((Boxed.new w [s0, k0] 76)).ext hx1; exact hb'); have ba00 := ba0.at0; have ba01 := ba0.at1; have ba0g := ba0.1; have Hba0 := Lib.hid ba0; clear ba0
  have tmp := Lib.hid (show NetAt w1 0 w.heap.size s0 k0 n0 from (H0.out.ext hE (by omega)))
  clear H0
  have H0 := tmp
  clear tmp
  have hz2 : w.heap.size ≤ w1.heap.size := hE.size
  replace hx : Ext w w1 := hx.trans hE
  clear hE
  have hq0 : w.heap.size < w1.heap.size := ba0g
  have Hr0 := Lib.hid hrc1
  clear hrc1 hx1
  by_cases hneg1 : r1 < 0
  case pos =>
    go_wp2_with fail
    go_ret
    exact ⟨rfl, (by repeat (first | exact Ext.refl _ | assumption | refine Ext.alloc ?_ _ | refine Ext.drew ?_ | refine Ext.drewN ?_ _ | refine Ext.setCell ?_ (by first | (simp; done) | (simp; omega) | omega) _ | refine Ext.trans ?_ (by assumption)))⟩
  have Hsm0 := Lib.hid (Hr0.out (by omega))
  go_wp2_with fail
  refine Calls.mono (laws_toNetwork s0 k0 n0 _ (H0.out.up (by omega) (by repeat (first | exact Ext.refl _ | assumption | refine Ext.alloc ?_ _ | refine Ext.drew ?_ | refine Ext.drewN ?_ _ | refine Ext.setCell ?_ (by first | (simp; done) | (simp; omega) | omega) _ | refine Ext.trans ?_ (by assumption)))) Hsm0.out) ?_
  rintro e w3 ⟨sv3, kv3, rfl, hx3, ho3⟩
  have hE : Ext w1 w3 := (by repeat (first | exact Ext.refl _ | assumption | refine Ext.alloc ?_ _ | refine Ext.drew ?_ | refine Ext.drewN ?_ _ | refine Ext.setCell ?_ (by first | (simp; done) | (simp; omega) | omega) _ | refine Ext.trans ?_ (by assumption)))
  clear ba00 ba01 ba0g
  have ba0 := Hba0.out.ext hE
  clear Hba0
  have ba00 := ba0.at0
  have ba01 := ba0.at1
  have ba0g := ba0.1
  have Hba0 := Lib.hid ba0
  clear ba0
  have tmp := Lib.hid (show NetAt w3 0 w.heap.size s0 k0 n0 from (H0.out.ext hE (by omega)))
  clear H0
  have H0 := tmp
  clear tmp
  have hz4 : w1.heap.size ≤ w3.heap.size := hE.size
  replace hx : Ext w w3 := hx.trans hE
  clear hE
  have R3 := Lib.hid (show NetAt w3 0 w3.heap.size sv3 kv3 n0 from ho3.net.netIn)
  clear ho3
  clear hx3
  go_wp2_with fail
  refine Calls.mono (spec_PossibleDays sv3 kv3 n0 x1 _ (R3.out.up (by omega) (by repeat (first | exact Ext.refl _ | assumption | refine Ext.alloc ?_ _ | refine Ext.drew ?_ | refine Ext.drewN ?_ _ | refine Ext.setCell ?_ (by first | (simp; done) | (simp; omega) | omega) _ | refine Ext.trans ?_ (by assumption))))) ?_
  rintro e w5 ⟨gs5, gk5, rfl, hx5, hgl5, hgo5⟩
  have hE : Ext w3 w5 := (by repeat (first | exact Ext.refl _ | assumption | refine Ext.alloc ?_ _ | refine Ext.drew ?_ | refine Ext.drewN ?_ _ | refine Ext.setCell ?_ (by first | (simp; done) | (simp; omega) | omega) _ | refine Ext.trans ?_ (by assumption)))
  clear ba00 ba01 ba0g
  have ba0 := Hba0.out.ext hE
  clear Hba0
  have ba00 := ba0.at0
  have ba01 := ba0.at1
  have ba0g := ba0.1
  have Hba0 := Lib.hid ba0
  clear ba0
  have tmp := Lib.hid (show NetAt w5 0 w.heap.size s0 k0 n0 from (H0.out.ext hE (by omega)))
  clear H0
  have H0 := tmp
  clear tmp
  have tmp := Lib.hid (show NetAt w5 0 w3.heap.size sv3 kv3 n0 from (R3.out.ext hE (by omega)))
  clear R3
  have R3 := tmp
  clear tmp
  have hz6 : w3.heap.size ≤ w5.heap.size := hE.size
  replace hx : Ext w w5 := hx.trans hE
  clear hE
  clear R3
  have W := Lib.hid (show OwnSpans w5 (w3.heap.size) w5.heap.size gs5 (psL n0 x1) from ⟨gk5, fun hn => ⟨by have := hgl5 hn; omega, hgo5.lt hn⟩, hgo5⟩)
  clear hgl5
  clear hgo5
  clear hx5
  go_wp2_with fail
  refine Calls.mono (laws_toNetwork s0 k0 n0 _ (H0.out.up (by omega) (by repeat (first | exact Ext.refl _ | assumption | refine Ext.alloc ?_ _ | refine Ext.drew ?_ | refine Ext.drewN ?_ _ | refine Ext.setCell ?_ (by first | (simp; done) | (simp; omega) | omega) _ | refine Ext.trans ?_ (by assumption)))) Hsm0.out) ?_
  rintro e w7 ⟨sv7, kv7, rfl, hx7, ho7⟩
  have hE : Ext w5 w7 := (by repeat (first | exact Ext.refl _ | assumption | refine Ext.alloc ?_ _ | refine Ext.drew ?_ | refine Ext.drewN ?_ _ | refine Ext.setCell ?_ (by first | (simp; done) | (simp; omega) | omega) _ | refine Ext.trans ?_ (by assumption)))
  clear ba00 ba01 ba0g
  have ba0 := Hba0.out.ext hE
  clear Hba0
  have ba00 := ba0.at0
  have ba01 := ba0.at1
  have ba0g := ba0.1
  have Hba0 := Lib.hid ba0
  clear ba0
  have tmp := Lib.hid (show NetAt w7 0 w.heap.size s0 k0 n0 from (H0.out.ext hE (by omega)))
  clear H0
  have H0 := tmp
  clear tmp
  have tmp := Lib.hid (show OwnSpans w7 (w3.heap.size) w5.heap.size gs5 (psL n0 x1) from (W.out.ext hE (by omega)))
  clear W
  have W := tmp
  clear tmp
  have hz8 : w5.heap.size ≤ w7.heap.size := hE.size
  replace hx : Ext w w7 := hx.trans hE
  clear hE
  obtain ⟨As7, cs7, rfl, _, _⟩ := ho7.at_.1.len
  obtain ⟨Ak7, ck7, rfl, _, _⟩ := ho7.at_.2.len
  have X0 := Lib.hid (show OwnNet w7 (w5.heap.size) w7.heap.size (.agg #[.slice As7 (n0).sets.length cs7, .slice Ak7 (n0).links.length ck7]) n0 from ho7)
  clear ho7
  clear hx7
  go_wp2_with fail
  have hE : Ext w7 (w7.alloc (.cells #[.slice As7 (n0).sets.length cs7, .slice Ak7 (n0).links.length ck7] 27)) := (by repeat (first | exact Ext.refl _ | assumption | refine Ext.alloc ?_ _ | refine Ext.drew ?_ | refine Ext.drewN ?_ _ | refine Ext.setCell ?_ (by first | (simp; done) | (simp; omega) | omega) _ | refine Ext.trans ?_ (by assumption)))
  clear ba00 ba01 ba0g
  have ba0 := Hba0.out.ext hE
  clear Hba0
  have ba00 := ba0.at0
  have ba01 := ba0.at1
  have ba0g := ba0.1
  have Hba0 := Lib.hid ba0
  clear ba0
  have tmp := Lib.hid (show NetAt (w7.alloc (.cells #[.slice As7 (n0).sets.length cs7, .slice Ak7 (n0).links.length ck7] 27)) 0 w.heap.size s0 k0 n0 from (H0.out.ext hE (by omega)))
  clear H0
  have H0 := tmp
  clear tmp
  have tmp := Lib.hid (show OwnSpans (w7.alloc (.cells #[.slice As7 (n0).sets.length cs7, .slice Ak7 (n0).links.length ck7] 27)) (w3.heap.size) w5.heap.size gs5 (psL n0 x1) from (W.out.ext hE (by omega)))
  clear W
  have W := tmp
  clear tmp
  have tmp := Lib.hid (show OwnNet (w7.alloc (.cells #[.slice As7 (n0).sets.length cs7, .slice Ak7 (n0).links.length ck7] 27)) (w5.heap.size) w7.heap.size (.agg #[.slice As7 (n0).sets.length cs7, .slice Ak7 (n0).links.length ck7]) n0 from (X0.out.ext' hE (by omega)))
  clear X0
  have X0 := tmp
  clear tmp
  have hz9 : w7.heap.size ≤ (w7.alloc (.cells #[.slice As7 (n0).sets.length cs7, .slice Ak7 (n0).links.length ck7] 27)).heap.size := hE.size
  replace hx : Ext w (w7.alloc (.cells #[.slice As7 (n0).sets.length cs7, .slice Ak7 (n0).links.length ck7] 27)) := hx.trans hE
  clear hE
  have Hbx0 := Lib.hid (Boxed.new w7 [.slice As7 (n0).sets.length cs7, .slice Ak7 (n0).links.length ck7] 27)
  have bx0 := Hbx0.out
  clear Hbx0
  have bx00 := bx0.at0
  have bx01 := bx0.at1
  have bx0g := bx0.1
  have Hbx0 := Lib.hid bx0
  clear bx0
  have hzb10 : (w7.alloc (.cells #[.slice As7 (n0).sets.length cs7, .slice Ak7 (n0).links.length ck7] 27)).heap.size = w7.heap.size + 1 := World.size_alloc _ _
  refine Calls.mono (impl_PossibleDays (.slice As7 (n0).sets.length cs7) (.slice Ak7 (n0).links.length ck7) n0 x1 _ (NetAt.up X0.out.at_ (by omega) (by repeat (first | exact Ext.refl _ | assumption | refine Ext.alloc ?_ _ | refine Ext.drew ?_ | refine Ext.drewN ?_ _ | refine Ext.setCell ?_ (by first | (simp; done) | (simp; omega) | omega) _ | refine Ext.trans ?_ (by assumption))))) ?_
  rintro e w11 ⟨gs11, gk11, rfl, hx11, hgl11, hgo11⟩
  have hE : Ext (w7.alloc (.cells #[.slice As7 (n0).sets.length cs7, .slice Ak7 (n0).links.length ck7] 27)) w11 := (by repeat (first | exact Ext.refl _ | assumption | refine Ext.alloc ?_ _ | refine Ext.drew ?_ | refine Ext.drewN ?_ _ | refine Ext.setCell ?_ (by first | (simp; done) | (simp; omega) | omega) _ | refine Ext.trans ?_ (by assumption)))
  clear ba00 ba01 ba0g
  have ba0 := Hba0.out.ext hE
  clear Hba0
  have ba00 := ba0.at0
  have ba01 := ba0.at1
  have ba0g := ba0.1
  have Hba0 := Lib.hid ba0
  clear ba0
  clear bx00 bx01 bx0g
  have bx0 := Hbx0.out.ext hE
  clear Hbx0
  have bx00 := bx0.at0
  have bx01 := bx0.at1
  have bx0g := bx0.1
  have Hbx0 := Lib.hid bx0
  clear bx0
  have tmp := Lib.hid (show NetAt w11 0 w.heap.size s0 k0 n0 from (H0.out.ext hE (by omega)))
  clear H0
  have H0 := tmp
  clear tmp
  have tmp := Lib.hid (show OwnSpans w11 (w3.heap.size) w5.heap.size gs5 (psL n0 x1) from (W.out.ext hE (by omega)))
  clear W
  have W := tmp
  clear tmp
  have tmp := Lib.hid (show OwnNet w11 (w5.heap.size) w7.heap.size (.agg #[.slice As7 (n0).sets.length cs7, .slice Ak7 (n0).links.length ck7]) n0 from (X0.out.ext' hE (by omega)))
  clear X0
  have X0 := tmp
  clear tmp
  have hz12 : (w7.alloc (.cells #[.slice As7 (n0).sets.length cs7, .slice Ak7 (n0).links.length ck7] 27)).heap.size ≤ w11.heap.size := hE.size
  replace hx : Ext w w11 := hx.trans hE
  clear hE
  have G := Lib.hid (show OwnSpans w11 ((w7.alloc (.cells #[.slice As7 (n0).sets.length cs7, .slice Ak7 (n0).links.length ck7] 27)).heap.size) w11.heap.size gs11 (psL n0 x1) from ⟨gk11, fun hn => ⟨by have := hgl11 hn; omega, hgo11.lt hn⟩, hgo11⟩)
  clear hgl11
  clear hgo11
  clear hx11
  go_wp2_with fail
  refine Calls.mono (laws_eqSpanS _ _ (psL n0 x1) _ (Spans.upAt G.out.spans (by omega) (by repeat (first | exact Ext.refl _ | assumption | refine Ext.alloc ?_ _ | refine Ext.drew ?_ | refine Ext.drewN ?_ _ | refine Ext.setCell ?_ (by first | (simp; done) | (simp; omega) | omega) _ | refine Ext.trans ?_ (by assumption)))) (Spans.upAt W.out.spans (by omega) (by repeat (first | exact Ext.refl _ | assumption | refine Ext.alloc ?_ _ | refine Ext.drew ?_ | refine Ext.drewN ?_ _ | refine Ext.setCell ?_ (by first | (simp; done) | (simp; omega) | omega) _ | refine Ext.trans ?_ (by assumption))))) ?_
  rintro e w13 ⟨rfl, hx13⟩
  have hE : Ext w11 w13 := (by repeat (first | exact Ext.refl _ | assumption | refine Ext.alloc ?_ _ | refine Ext.drew ?_ | refine Ext.drewN ?_ _ | refine Ext.setCell ?_ (by first | (simp; done) | (simp; omega) | omega) _ | refine Ext.trans ?_ (by assumption)))
  clear ba00 ba01 ba0g
  have ba0 := Hba0.out.ext hE
  clear Hba0
  have ba00 := ba0.at0
  have ba01 := ba0.at1
  have ba0g := ba0.1
  have Hba0 := Lib.hid ba0
  clear ba0
  clear bx00 bx01 bx0g
  have bx0 := Hbx0.out.ext hE
  clear Hbx0
  have bx00 := bx0.at0
  have bx01 := bx0.at1
  have bx0g := bx0.1
  have Hbx0 := Lib.hid bx0
  clear bx0
  have tmp := Lib.hid (show NetAt w13 0 w.heap.size s0 k0 n0 from (H0.out.ext hE (by omega)))
  clear H0
  have H0 := tmp
  clear tmp
  have tmp := Lib.hid (show OwnSpans w13 (w3.heap.size) w5.heap.size gs5 (psL n0 x1) from (W.out.ext hE (by omega)))
  clear W
  have W := tmp
  clear tmp
  have tmp := Lib.hid (show OwnNet w13 (w5.heap.size) w7.heap.size (.agg #[.slice As7 (n0).sets.length cs7, .slice Ak7 (n0).links.length ck7]) n0 from (X0.out.ext' hE (by omega)))
  clear X0
  have X0 := tmp
  clear tmp
  have tmp := Lib.hid (show OwnSpans w13 ((w7.alloc (.cells #[.slice As7 (n0).sets.length cs7, .slice Ak7 (n0).links.length ck7] 27)).heap.size) w11.heap.size gs11 (psL n0 x1) from (G.out.ext hE (by omega)))
  clear G
  have G := tmp
  clear tmp
  have hz14 : w11.heap.size ≤ w13.heap.size := hE.size
  replace hx : Ext w w13 := hx.trans hE
  clear hE
  clear hx13
  go_wp2_with fail
  go_region_held3 (fun w' => w'.cell? ⟨w.heap.size, 0, none⟩ = some (s0) ∧ w'.cell? ⟨w.heap.size, 1, none⟩ = some (k0) ∧ w'.cell? ⟨w7.heap.size, 0, none⟩ = some (.slice As7 (n0).sets.length cs7) ∧ w'.cell? ⟨w7.heap.size, 1, none⟩ = some (.slice Ak7 (n0).links.length ck7) ∧ Ext w13 w')
    (exact Ext.and_cell ba0g ba00 (by repeat (first | exact Ext.refl _ | assumption | refine Ext.alloc ?_ _ | refine Ext.drew ?_ | refine Ext.drewN ?_ _ | refine Ext.setCell ?_ (by first | (simp; done) | (simp; omega) | omega) _ | refine Ext.trans ?_ (by assumption))) (Ext.and_cell ba0g ba01 (by repeat (first | exact Ext.refl _ | assumption | refine Ext.alloc ?_ _ | refine Ext.drew ?_ | refine Ext.drewN ?_ _ | refine Ext.setCell ?_ (by first | (simp; done) | (simp; omega) | omega) _ | refine Ext.trans ?_ (by assumption))) (Ext.and_cell bx0g bx00 (by repeat (first | exact Ext.refl _ | assumption | refine Ext.alloc ?_ _ | refine Ext.drew ?_ | refine Ext.drewN ?_ _ | refine Ext.setCell ?_ (by first | (simp; done) | (simp; omega) | omega) _ | refine Ext.trans ?_ (by assumption))) (Ext.and_cell bx0g bx01 (by repeat (first | exact Ext.refl _ | assumption | refine Ext.alloc ?_ _ | refine Ext.drew ?_ | refine Ext.drewN ?_ _ | refine Ext.setCell ?_ (by first | (simp; done) | (simp; omega) | omega) _ | refine Ext.trans ?_ (by assumption))) (by repeat (first | exact Ext.refl _ | assumption | refine Ext.alloc ?_ _ | refine Ext.drew ?_ | refine Ext.drewN ?_ _ | refine Ext.setCell ?_ (by first | (simp; done) | (simp; omega) | omega) _ | refine Ext.trans ?_ (by assumption)))))))
    (first
      | (go_at_call 74; refine Calls.mono (laws_toNetwork s0 k0 n0 _ (H0.out.up (by omega) (by repeat (first | exact Ext.refl _ | assumption | refine Ext.alloc ?_ _ | refine Ext.drew ?_ | refine Ext.drewN ?_ _ | refine Ext.setCell ?_ (by first | (simp; done) | (simp; omega) | omega) _ | refine Ext.trans ?_ (by assumption)))) Hsm0.out) ?_; rintro e w15 ⟨sv15, kv15, rfl, hx15, ho15⟩)
      | (go_at_call 77; refine Calls.mono (laws_eqNetwork _ _ _ _ n0 _ (NetAt.up X0.out.at_ (by omega) (by repeat (first | exact Ext.refl _ | assumption | refine Ext.alloc ?_ _ | refine Ext.drew ?_ | refine Ext.drewN ?_ _ | refine Ext.setCell ?_ (by first | (simp; done) | (simp; omega) | omega) _ | refine Ext.trans ?_ (by assumption)))) ((show NetIn w15 sv15 kv15 n0 from ho15.net.netIn).up (by repeat (first | exact Ext.refl _ | assumption | refine Ext.alloc ?_ _ | refine Ext.drew ?_ | refine Ext.drewN ?_ _ | refine Ext.setCell ?_ (by first | (simp; done) | (simp; omega) | omega) _ | refine Ext.trans ?_ (by assumption))))) ?_; rintro e w16 ⟨rfl, hx16⟩))
  have hE : Ext w13 w16 := (by repeat (first | exact Ext.refl _ | assumption | refine Ext.alloc ?_ _ | refine Ext.drew ?_ | refine Ext.drewN ?_ _ | refine Ext.setCell ?_ (by first | (simp; done) | (simp; omega) | omega) _ | refine Ext.trans ?_ (by assumption)))
  clear ba00 ba01 ba0g
  have ba0 := Hba0.out.ext hE
  clear Hba0
  have ba00 := ba0.at0
  have ba01 := ba0.at1
  have ba0g := ba0.1
  have Hba0 := Lib.hid ba0
  clear ba0
  clear bx00 bx01 bx0g
  have bx0 := Hbx0.out.ext hE
  clear Hbx0
  have bx00 := bx0.at0
  have bx01 := bx0.at1
  have bx0g := bx0.1
  have Hbx0 := Lib.hid bx0
  clear bx0
  have tmp := Lib.hid (show NetAt w16 0 w.heap.size s0 k0 n0 from (H0.out.ext hE (by omega)))
  clear H0
  have H0 := tmp
  clear tmp
  have tmp := Lib.hid (show OwnSpans w16 (w3.heap.size) w5.heap.size gs5 (psL n0 x1) from (W.out.ext hE (by omega)))
  clear W
  have W := tmp
  clear tmp
  have tmp := Lib.hid (show OwnNet w16 (w5.heap.size) w7.heap.size (.agg #[.slice As7 (n0).sets.length cs7, .slice Ak7 (n0).links.length ck7]) n0 from (X0.out.ext' hE (by omega)))
  clear X0
  have X0 := tmp
  clear tmp
  have tmp := Lib.hid (show OwnSpans w16 ((w7.alloc (.cells #[.slice As7 (n0).sets.length cs7, .slice Ak7 (n0).links.length ck7] 27)).heap.size) w11.heap.size gs11 (psL n0 x1) from (G.out.ext hE (by omega)))
  clear G
  have G := tmp
  clear tmp
  have hz17 : w13.heap.size ≤ w16.heap.size := hE.size
  replace hx : Ext w w16 := hx.trans hE
  clear hE
  clear hx15 ho15 hx16
  go_wp2_with fail
  have hnc18 := netCells_le n0 Hsm0.out
  refine Calls.mono (laws_markNetwork _ _ _ _ n0 (1) _ X0.out (by omega) Hsm0.out (by omega) (by omega)) ?_
  rintro e w18 ⟨rfl, hO, hm18⟩
  clear hm18 X0
  clear ba00 ba01 ba0g
  have ba0 := Hba0.out.off hO (fun hh => by have h3 := hh.1; have h4 := hh.2; omega)
  clear Hba0
  have ba00 := ba0.at0
  have ba01 := ba0.at1
  have ba0g := ba0.1
  have Hba0 := Lib.hid ba0
  clear ba0
  clear bx00 bx01 bx0g
  have bx0 := Hbx0.out.off hO (fun hh => by have h3 := hh.1; have h4 := hh.2; omega)
  clear Hbx0
  have bx00 := bx0.at0
  have bx01 := bx0.at1
  have bx0g := bx0.1
  have Hbx0 := Lib.hid bx0
  clear bx0
  have tmp := Lib.hid (show NetAt w18 0 w.heap.size s0 k0 n0 from (H0.out.off hO (fun x h1 h2 hh => by have h3 := hh.1; have h4 := hh.2; omega) (by omega)))
  clear H0
  have H0 := tmp
  clear tmp
  have tmp := Lib.hid (show OwnSpans w18 (w3.heap.size) w5.heap.size gs5 (psL n0 x1) from (W.out.off hO (fun x h1 h2 hh => by have h3 := hh.1; have h4 := hh.2; omega) (by omega)))
  clear W
  have W := tmp
  clear tmp
  have tmp := Lib.hid (show OwnSpans w18 ((w7.alloc (.cells #[.slice As7 (n0).sets.length cs7, .slice Ak7 (n0).links.length ck7] 27)).heap.size) w11.heap.size gs11 (psL n0 x1) from (G.out.off hO (fun x h1 h2 hh => by have h3 := hh.1; have h4 := hh.2; omega) (by omega)))
  clear G
  have G := tmp
  clear tmp
  have hz19 : w16.heap.size ≤ w18.heap.size := hO.size
  replace hx : Ext w w18 := hx.off hO (fun x h1 hh => by have h3 := hh.1; omega)
  clear hO
  obtain ⟨m18, hmm18⟩ : ∃ m : Int, (1 : Int) + netCells n0 = m := ⟨_, rfl⟩
  rw [hmm18]
  have hmn : decide (m18 < 0) = false := decide_eq_false (by omega)
  go_wp2_with fail
  refine Calls.mono (laws_eqSpanS _ _ (psL n0 x1) _ (Spans.upAt G.out.spans (by omega) (by repeat (first | exact Ext.refl _ | assumption | refine Ext.alloc ?_ _ | refine Ext.drew ?_ | refine Ext.drewN ?_ _ | refine Ext.setCell ?_ (by first | (simp; done) | (simp; omega) | omega) _ | refine Ext.trans ?_ (by assumption)))) (Spans.upAt W.out.spans (by omega) (by repeat (first | exact Ext.refl _ | assumption | refine Ext.alloc ?_ _ | refine Ext.drew ?_ | refine Ext.drewN ?_ _ | refine Ext.setCell ?_ (by first | (simp; done) | (simp; omega) | omega) _ | refine Ext.trans ?_ (by assumption))))) ?_
  rintro e w20 ⟨rfl, hx20⟩
  have hE : Ext w18 w20 := (by repeat (first | exact Ext.refl _ | assumption | refine Ext.alloc ?_ _ | refine Ext.drew ?_ | refine Ext.drewN ?_ _ | refine Ext.setCell ?_ (by first | (simp; done) | (simp; omega) | omega) _ | refine Ext.trans ?_ (by assumption)))
  clear ba00 ba01 ba0g
  have ba0 := Hba0.out.ext hE
  clear Hba0
  have ba00 := ba0.at0
  have ba01 := ba0.at1
  have ba0g := ba0.1
  have Hba0 := Lib.hid ba0
  clear ba0
  clear bx00 bx01 bx0g
  have bx0 := Hbx0.out.ext hE
  clear Hbx0
  have bx00 := bx0.at0
  have bx01 := bx0.at1
  have bx0g := bx0.1
  have Hbx0 := Lib.hid bx0
  clear bx0
  have tmp := Lib.hid (show NetAt w20 0 w.heap.size s0 k0 n0 from (H0.out.ext hE (by omega)))
  clear H0
  have H0 := tmp
  clear tmp
  have tmp := Lib.hid (show OwnSpans w20 (w3.heap.size) w5.heap.size gs5 (psL n0 x1) from (W.out.ext hE (by omega)))
  clear W
  have W := tmp
  clear tmp
  have tmp := Lib.hid (show OwnSpans w20 ((w7.alloc (.cells #[.slice As7 (n0).sets.length cs7, .slice Ak7 (n0).links.length ck7] 27)).heap.size) w11.heap.size gs11 (psL n0 x1) from (G.out.ext hE (by omega)))
  clear G
  have G := tmp
  clear tmp
  have hz21 : w18.heap.size ≤ w20.heap.size := hE.size
  replace hx : Ext w w20 := hx.trans hE
  clear hE
  clear hx20
  go_wp2_with fail
  have HsR := Lib.hid (psL_small n0 x1)
  have hnc22 := HsR.out
  refine Calls.mono (markSpans _ _ _ (psL n0 x1) 1 _ G.out HsR.out (by omega) (by omega)) ?_
  rintro e w22 ⟨rfl, hO, hm22⟩
  clear G
  clear ba00 ba01 ba0g
  have ba0 := Hba0.out.off hO (fun hh => by have h3 := hh.1; have h4 := hh.2; omega)
  clear Hba0
  have ba00 := ba0.at0
  have ba01 := ba0.at1
  have ba0g := ba0.1
  have Hba0 := Lib.hid ba0
  clear ba0
  clear bx00 bx01 bx0g
  have bx0 := Hbx0.out.off hO (fun hh => by have h3 := hh.1; have h4 := hh.2; omega)
  clear Hbx0
  have bx00 := bx0.at0
  have bx01 := bx0.at1
  have bx0g := bx0.1
  have Hbx0 := Lib.hid bx0
  clear bx0
  have tmp := Lib.hid (show NetAt w22 0 w.heap.size s0 k0 n0 from (H0.out.off hO (fun x h1 h2 hh => by have h3 := hh.1; have h4 := hh.2; omega) (by omega)))
  clear H0
  have H0 := tmp
  clear tmp
  have tmp := Lib.hid (show OwnSpans w22 (w3.heap.size) w5.heap.size gs5 (psL n0 x1) from (W.out.off hO (fun x h1 h2 hh => by have h3 := hh.1; have h4 := hh.2; omega) (by omega)))
  clear W
  have W := tmp
  clear tmp
  have hz23 : w20.heap.size ≤ w22.heap.size := hO.size
  replace hx : Ext w w22 := hx.off hO (fun x h1 hh => by have h3 := hh.1; omega)
  clear hO
  have G := Lib.hid (show MarkedSpans w22 ((w7.alloc (.cells #[.slice As7 (n0).sets.length cs7, .slice Ak7 (n0).links.length ck7] 27)).heap.size) (w11.heap.size) (gs11) (psL n0 x1) 1 from hm22)
  clear hm22
  obtain ⟨m, hmm⟩ : ∃ m : Int, (1 : Int) + (psL n0 x1).length * 2 = m := ⟨_, rfl⟩
  rw [hmm]
  have hmz : decide (m < 0) = false := decide_eq_false (by omega)
  have hme : (m != m) = false := bne_self_eq_false m
  go_wp2_with fail
  refine Calls.mono (laws_heldSpanS _ _ _ (psL n0 x1).length 1 _ G.out (by omega) HsR.out (by omega) (by omega)) ?_
  rintro e w24 ⟨rfl, hx24⟩
  have hE : Ext w22 w24 := (by repeat (first | exact Ext.refl _ | assumption | refine Ext.alloc ?_ _ | refine Ext.drew ?_ | refine Ext.drewN ?_ _ | refine Ext.setCell ?_ (by first | (simp; done) | (simp; omega) | omega) _ | refine Ext.trans ?_ (by assumption)))
  clear ba00 ba01 ba0g
  have ba0 := Hba0.out.ext hE
  clear Hba0
  have ba00 := ba0.at0
  have ba01 := ba0.at1
  have ba0g := ba0.1
  have Hba0 := Lib.hid ba0
  clear ba0
  clear bx00 bx01 bx0g
  have bx0 := Hbx0.out.ext hE
  clear Hbx0
  have bx00 := bx0.at0
  have bx01 := bx0.at1
  have bx0g := bx0.1
  have Hbx0 := Lib.hid bx0
  clear bx0
  have tmp := Lib.hid (show NetAt w24 0 w.heap.size s0 k0 n0 from (H0.out.ext hE (by omega)))
  clear H0
  have H0 := tmp
  clear tmp
  have tmp := Lib.hid (show OwnSpans w24 (w3.heap.size) w5.heap.size gs5 (psL n0 x1) from (W.out.ext hE (by omega)))
  clear W
  have W := tmp
  clear tmp
  have tmp := Lib.hid (show MarkedSpans w24 ((w7.alloc (.cells #[.slice As7 (n0).sets.length cs7, .slice Ak7 (n0).links.length ck7] 27)).heap.size) (w11.heap.size) (gs11) (psL n0 x1) 1 from (Row.ext G.out hE (by omega)))
  clear G
  have G := tmp
  clear tmp
  have hz25 : w22.heap.size ≤ w24.heap.size := hE.size
  replace hx : Ext w w24 := hx.trans hE
  clear hE
  clear hx24
  rw [hmm]
  go_wp2_with fail
  refine Calls.mono (laws_toNetwork s0 k0 n0 _ (H0.out.up (by omega) (by repeat (first | exact Ext.refl _ | assumption | refine Ext.alloc ?_ _ | refine Ext.drew ?_ | refine Ext.drewN ?_ _ | refine Ext.setCell ?_ (by first | (simp; done) | (simp; omega) | omega) _ | refine Ext.trans ?_ (by assumption)))) Hsm0.out) ?_
  rintro e w26 ⟨sv26, kv26, rfl, hx26, ho26⟩
  have hE : Ext w24 w26 := (by repeat (first | exact Ext.refl _ | assumption | refine Ext.alloc ?_ _ | refine Ext.drew ?_ | refine Ext.drewN ?_ _ | refine Ext.setCell ?_ (by first | (simp; done) | (simp; omega) | omega) _ | refine Ext.trans ?_ (by assumption)))
  clear ba00 ba01 ba0g
  have ba0 := Hba0.out.ext hE
  clear Hba0
  have ba00 := ba0.at0
  have ba01 := ba0.at1
  have ba0g := ba0.1
  have Hba0 := Lib.hid ba0
  clear ba0
  clear bx00 bx01 bx0g
  have bx0 := Hbx0.out.ext hE
  clear Hbx0
  have bx00 := bx0.at0
  have bx01 := bx0.at1
  have bx0g := bx0.1
  have Hbx0 := Lib.hid bx0
  clear bx0
  have tmp := Lib.hid (show NetAt w26 0 w.heap.size s0 k0 n0 from (H0.out.ext hE (by omega)))
  clear H0
  have H0 := tmp
  clear tmp
  have tmp := Lib.hid (show OwnSpans w26 (w3.heap.size) w5.heap.size gs5 (psL n0 x1) from (W.out.ext hE (by omega)))
  clear W
  have W := tmp
  clear tmp
  have tmp := Lib.hid (show MarkedSpans w26 ((w7.alloc (.cells #[.slice As7 (n0).sets.length cs7, .slice Ak7 (n0).links.length ck7] 27)).heap.size) (w11.heap.size) (gs11) (psL n0 x1) 1 from (Row.ext G.out hE (by omega)))
  clear G
  have G := tmp
  clear tmp
  have hz27 : w24.heap.size ≤ w26.heap.size := hE.size
  replace hx : Ext w w26 := hx.trans hE
  clear hE
  have R26 := Lib.hid (show NetAt w26 0 w26.heap.size sv26 kv26 n0 from ho26.net.netIn)
  clear ho26
  clear hx26
  go_wp2_with fail
  refine Calls.mono (impl_PossibleDays sv26 kv26 n0 x1 _ (R26.out.up (by omega) (by repeat (first | exact Ext.refl _ | assumption | refine Ext.alloc ?_ _ | refine Ext.drew ?_ | refine Ext.drewN ?_ _ | refine Ext.setCell ?_ (by first | (simp; done) | (simp; omega) | omega) _ | refine Ext.trans ?_ (by assumption))))) ?_
  rintro e w28 ⟨gs28, gk28, rfl, hx28, hgl28, hgo28⟩
  have hE : Ext w26 w28 := (by repeat (first | exact Ext.refl _ | assumption | refine Ext.alloc ?_ _ | refine Ext.drew ?_ | refine Ext.drewN ?_ _ | refine Ext.setCell ?_ (by first | (simp; done) | (simp; omega) | omega) _ | refine Ext.trans ?_ (by assumption)))
  clear ba00 ba01 ba0g
  have ba0 := Hba0.out.ext hE
  clear Hba0
  have ba00 := ba0.at0
  have ba01 := ba0.at1
  have ba0g := ba0.1
  have Hba0 := Lib.hid ba0
  clear ba0
  clear bx00 bx01 bx0g
  have bx0 := Hbx0.out.ext hE
  clear Hbx0
  have bx00 := bx0.at0
  have bx01 := bx0.at1
  have bx0g := bx0.1
  have Hbx0 := Lib.hid bx0
  clear bx0
  have tmp := Lib.hid (show NetAt w28 0 w.heap.size s0 k0 n0 from (H0.out.ext hE (by omega)))
  clear H0
  have H0 := tmp
  clear tmp
  have tmp := Lib.hid (show OwnSpans w28 (w3.heap.size) w5.heap.size gs5 (psL n0 x1) from (W.out.ext hE (by omega)))
  clear W
  have W := tmp
  clear tmp
  have tmp := Lib.hid (show MarkedSpans w28 ((w7.alloc (.cells #[.slice As7 (n0).sets.length cs7, .slice Ak7 (n0).links.length ck7] 27)).heap.size) (w11.heap.size) (gs11) (psL n0 x1) 1 from (Row.ext G.out hE (by omega)))
  clear G
  have G := tmp
  clear tmp
  have tmp := Lib.hid (show NetAt w28 0 w26.heap.size sv26 kv26 n0 from (R26.out.ext hE (by omega)))
  clear R26
  have R26 := tmp
  clear tmp
  have hz29 : w26.heap.size ≤ w28.heap.size := hE.size
  replace hx : Ext w w28 := hx.trans hE
  clear hE
  clear R26
  have Hh := Lib.hid (show OwnSpans w28 (w26.heap.size) w28.heap.size gs28 (psL n0 x1) from ⟨gk28, fun hn => ⟨by have := hgl28 hn; omega, hgo28.lt hn⟩, hgo28⟩)
  clear hgl28
  clear hgo28
  clear hx28
  go_wp2_with fail
  refine Calls.mono (laws_eqSpanS _ _ (psL n0 x1) _ (Spans.upAt Hh.out.spans (by omega) (by repeat (first | exact Ext.refl _ | assumption | refine Ext.alloc ?_ _ | refine Ext.drew ?_ | refine Ext.drewN ?_ _ | refine Ext.setCell ?_ (by first | (simp; done) | (simp; omega) | omega) _ | refine Ext.trans ?_ (by assumption)))) (Spans.upAt W.out.spans (by omega) (by repeat (first | exact Ext.refl _ | assumption | refine Ext.alloc ?_ _ | refine Ext.drew ?_ | refine Ext.drewN ?_ _ | refine Ext.setCell ?_ (by first | (simp; done) | (simp; omega) | omega) _ | refine Ext.trans ?_ (by assumption))))) ?_
  rintro e w30 ⟨rfl, hx30⟩
  have hE : Ext w28 w30 := (by repeat (first | exact Ext.refl _ | assumption | refine Ext.alloc ?_ _ | refine Ext.drew ?_ | refine Ext.drewN ?_ _ | refine Ext.setCell ?_ (by first | (simp; done) | (simp; omega) | omega) _ | refine Ext.trans ?_ (by assumption)))
  clear ba00 ba01 ba0g
  have ba0 := Hba0.out.ext hE
  clear Hba0
  have ba00 := ba0.at0
  have ba01 := ba0.at1
  have ba0g := ba0.1
  have Hba0 := Lib.hid ba0
  clear ba0
  clear bx00 bx01 bx0g
  have bx0 := Hbx0.out.ext hE
  clear Hbx0
  have bx00 := bx0.at0
  have bx01 := bx0.at1
  have bx0g := bx0.1
  have Hbx0 := Lib.hid bx0
  clear bx0
  have tmp := Lib.hid (show NetAt w30 0 w.heap.size s0 k0 n0 from (H0.out.ext hE (by omega)))
  clear H0
  have H0 := tmp
  clear tmp
  have tmp := Lib.hid (show OwnSpans w30 (w3.heap.size) w5.heap.size gs5 (psL n0 x1) from (W.out.ext hE (by omega)))
  clear W
  have W := tmp
  clear tmp
  have tmp := Lib.hid (show MarkedSpans w30 ((w7.alloc (.cells #[.slice As7 (n0).sets.length cs7, .slice Ak7 (n0).links.length ck7] 27)).heap.size) (w11.heap.size) (gs11) (psL n0 x1) 1 from (Row.ext G.out hE (by omega)))
  clear G
  have G := tmp
  clear tmp
  have tmp := Lib.hid (show OwnSpans w30 (w26.heap.size) w28.heap.size gs28 (psL n0 x1) from (Hh.out.ext hE (by omega)))
  clear Hh
  have Hh := tmp
  clear tmp
  have hz31 : w28.heap.size ≤ w30.heap.size := hE.size
  replace hx : Ext w w30 := hx.trans hE
  clear hE
  clear hx30
  go_wp2_with fail
  refine Calls.mono (laws_heldSpanS _ _ _ (psL n0 x1).length 1 _ G.out (by omega) HsR.out (by omega) (by omega)) ?_
  rintro e w32 ⟨rfl, hx32⟩
  have hE : Ext w30 w32 := (by repeat (first | exact Ext.refl _ | assumption | refine Ext.alloc ?_ _ | refine Ext.drew ?_ | refine Ext.drewN ?_ _ | refine Ext.setCell ?_ (by first | (simp; done) | (simp; omega) | omega) _ | refine Ext.trans ?_ (by assumption)))
  clear ba00 ba01 ba0g
  have ba0 := Hba0.out.ext hE
  clear Hba0
  have ba00 := ba0.at0
  have ba01 := ba0.at1
  have ba0g := ba0.1
  have Hba0 := Lib.hid ba0
  clear ba0
  clear bx00 bx01 bx0g
  have bx0 := Hbx0.out.ext hE
  clear Hbx0
  have bx00 := bx0.at0
  have bx01 := bx0.at1
  have bx0g := bx0.1
  have Hbx0 := Lib.hid bx0
  clear bx0
  have tmp := Lib.hid (show NetAt w32 0 w.heap.size s0 k0 n0 from (H0.out.ext hE (by omega)))
  clear H0
  have H0 := tmp
  clear tmp
  have tmp := Lib.hid (show OwnSpans w32 (w3.heap.size) w5.heap.size gs5 (psL n0 x1) from (W.out.ext hE (by omega)))
  clear W
  have W := tmp
  clear tmp
  have tmp := Lib.hid (show MarkedSpans w32 ((w7.alloc (.cells #[.slice As7 (n0).sets.length cs7, .slice Ak7 (n0).links.length ck7] 27)).heap.size) (w11.heap.size) (gs11) (psL n0 x1) 1 from (Row.ext G.out hE (by omega)))
  clear G
  have G := tmp
  clear tmp
  have tmp := Lib.hid (show OwnSpans w32 (w26.heap.size) w28.heap.size gs28 (psL n0 x1) from (Hh.out.ext hE (by omega)))
  clear Hh
  have Hh := tmp
  clear tmp
  have hz33 : w30.heap.size ≤ w32.heap.size := hE.size
  replace hx : Ext w w32 := hx.trans hE
  clear hE
  clear hx32
  rw [hmm]
  go_wp2_with fail
  go_ret
  exact ⟨rfl, hx⟩
end Go.Proofs.Ytfajmlkiidnhlaa
