/- The law FnExactStatementText, walked out of the contracts of the program's StatementText and the reference's. -/
import Derived.Test.YtfmnkojjkjkdeaaDoorTf
import Derived.Test.YtfmnkojjkjkdeaaDoorTi
import Derived.Test.YtfmnkojjkjkdeaaDoorH
import Derived.Test.YtfmnkojjkjkdeaaDoorI
import Derived.Test.YtfmnkojjkjkdeaaDoorJ
import Derived.Deep.RegionHeld3
namespace Go.Proofs.YtfmnkojjkjkdeaaDoor
set_option linter.unusedVariables false
set_option linter.unusedSimpArgs false
open Go.RowKit
attribute [local go_sem] cell_onto

set_option maxRecDepth 100000 in
set_option maxHeartbeats 4000000 in
theorem law_StatementText (s0 k0 : Value) (n0 : Net) (x1 : Int) (w : World) (h0 : NetIn w s0 k0 n0) (h1 : (Lit.int .i64 x1).wf = true) (ht : TabW w) :
    Calls Tryd.prog 3 #[.agg #[s0, k0], .int .i64 x1] w (RetX (.bool true) w) := by
  have H0 := Lib.hid h0
  clear h0
  clear h1
  have Ht := Lib.hid ht
  clear ht
  go_enter Tryd.func3, Tryd.ntmps3
  go_wp2_with fail
  refine Calls.mono (laws_szNetwork s0 k0 n0 1048576 _ (by omega) (by omega) (H0.out.up (by repeat (first | exact Ext.refl _ | assumption | refine Ext.alloc ?_ _ | refine Ext.drew ?_ | refine Ext.drewN ?_ _ | refine Ext.setCell ?_ (by first | (simp; done) | (simp; omega) | omega) _ | refine Ext.trans ?_ (by assumption))))) ?_
  rintro e w1 ⟨r1, rfl, hx1, hra1, hrb1, hrc1⟩
  have hE : Ext w w1 := (by repeat (first | exact Ext.refl _ | assumption | refine Ext.alloc ?_ _ | refine Ext.drew ?_ | refine Ext.drewN ?_ _ | refine Ext.setCell ?_ (by first | (simp; done) | (simp; omega) | omega) _ | refine Ext.trans ?_ (by assumption)))
  have ba0 := (show Boxed w1 (w.heap.size) [s0, k0] from by have hb' := ((Boxed.new w [s0, k0] 25)).ext hx1; exact hb'); have ba00 := ba0.at0; have ba01 := ba0.at1; have ba0g := ba0.1; have Hba0 := Lib.hid ba0; clear ba0
  have hx : Ext w w1 := hE
  replace H0 := Lib.hid (H0.out.up hE)
  have Hr0 := Lib.hid hrc1
  clear hrc1 hx1 hE
  by_cases hneg1 : r1 < 0
  case pos =>
    go_wp2_with fail
    go_ret
    exact ⟨rfl, (by repeat (first | exact Ext.refl _ | assumption | refine Ext.alloc ?_ _ | refine Ext.drew ?_ | refine Ext.drewN ?_ _ | refine Ext.setCell ?_ (by first | (simp; done) | (simp; omega) | omega) _ | refine Ext.trans ?_ (by assumption)))⟩
  have Hsm0 := Lib.hid (Hr0.out (by omega))
  go_wp2_with fail
  refine Calls.mono (laws_toNetwork s0 k0 n0 _ (H0.out.up (by repeat (first | exact Ext.refl _ | assumption | refine Ext.alloc ?_ _ | refine Ext.drew ?_ | refine Ext.drewN ?_ _ | refine Ext.setCell ?_ (by first | (simp; done) | (simp; omega) | omega) _ | refine Ext.trans ?_ (by assumption)))) Hsm0.out) ?_
  rintro e w2 ⟨sv2, kv2, rfl, hx2, ho2⟩
  have hE : Ext w1 w2 := (by repeat (first | exact Ext.refl _ | assumption | refine Ext.alloc ?_ _ | refine Ext.drew ?_ | refine Ext.drewN ?_ _ | refine Ext.setCell ?_ (by first | (simp; done) | (simp; omega) | omega) _ | refine Ext.trans ?_ (by assumption)))
  clear ba00 ba01 ba0g
  have ba0 := Hba0.out.ext hE
  clear Hba0
  have ba00 := ba0.at0
  have ba01 := ba0.at1
  have ba0g := ba0.1
  have Hba0 := Lib.hid ba0
  clear ba0
  replace H0 := Lib.hid (H0.out.up hE)
  replace hx : Ext w w2 := hx.trans hE
  clear hE
  have hp2 := ho2.net.parts
  obtain ⟨As2, cs2, rfl, _, _⟩ := hp2.1.len
  obtain ⟨Ak2, ck2, rfl, _, _⟩ := hp2.2.len
  have R2 := Lib.hid (show NetIn w2 _ _ n0 from ho2.net.netIn)
  have O2 := Lib.hid ho2
  clear ho2 hp2
  clear hx2
  go_wp2_with fail
  refine Calls.mono (spec_StatementText (.slice As2 n0.sets.length cs2) (.slice Ak2 n0.links.length ck2) n0 x1 _ (R2.out.up (by repeat (first | exact Ext.refl _ | assumption | refine Ext.alloc ?_ _ | refine Ext.drew ?_ | refine Ext.drewN ?_ _ | refine Ext.setCell ?_ (by first | (simp; done) | (simp; omega) | omega) _ | refine Ext.trans ?_ (by assumption))))) ?_
  rintro e w3 ⟨rfl, hx3⟩
  have hE : Ext w2 w3 := (by repeat (first | exact Ext.refl _ | assumption | refine Ext.alloc ?_ _ | refine Ext.drew ?_ | refine Ext.drewN ?_ _ | refine Ext.setCell ?_ (by first | (simp; done) | (simp; omega) | omega) _ | refine Ext.trans ?_ (by assumption)))
  clear ba00 ba01 ba0g
  have ba0 := Hba0.out.ext hE
  clear Hba0
  have ba00 := ba0.at0
  have ba01 := ba0.at1
  have ba0g := ba0.1
  have Hba0 := Lib.hid ba0
  clear ba0
  replace H0 := Lib.hid (H0.out.up hE)
  replace R2 := Lib.hid (R2.out.up hE)
  replace O2 := Lib.hid (O2.out.ext hE)
  replace hx : Ext w w3 := hx.trans hE
  clear hE
  clear hx3
  go_wp2_with fail
  refine Calls.mono (laws_toNetwork s0 k0 n0 _ (H0.out.up (by repeat (first | exact Ext.refl _ | assumption | refine Ext.alloc ?_ _ | refine Ext.drew ?_ | refine Ext.drewN ?_ _ | refine Ext.setCell ?_ (by first | (simp; done) | (simp; omega) | omega) _ | refine Ext.trans ?_ (by assumption)))) Hsm0.out) ?_
  rintro e w4 ⟨sv4, kv4, rfl, hx4, ho4⟩
  have hE : Ext w3 w4 := (by repeat (first | exact Ext.refl _ | assumption | refine Ext.alloc ?_ _ | refine Ext.drew ?_ | refine Ext.drewN ?_ _ | refine Ext.setCell ?_ (by first | (simp; done) | (simp; omega) | omega) _ | refine Ext.trans ?_ (by assumption)))
  clear ba00 ba01 ba0g
  have ba0 := Hba0.out.ext hE
  clear Hba0
  have ba00 := ba0.at0
  have ba01 := ba0.at1
  have ba0g := ba0.1
  have Hba0 := Lib.hid ba0
  clear ba0
  replace H0 := Lib.hid (H0.out.up hE)
  replace R2 := Lib.hid (R2.out.up hE)
  replace O2 := Lib.hid (O2.out.ext hE)
  replace hx : Ext w w4 := hx.trans hE
  clear hE
  have hp4 := ho4.net.parts
  obtain ⟨As4, cs4, rfl, _, _⟩ := hp4.1.len
  obtain ⟨Ak4, ck4, rfl, _, _⟩ := hp4.2.len
  have R4 := Lib.hid (show NetIn w4 _ _ n0 from ho4.net.netIn)
  have O4 := Lib.hid ho4
  clear ho4 hp4
  clear hx4
  go_wp2_with fail
  have hE : Ext w4 (w4.alloc (.cells #[.slice As4 n0.sets.length cs4, .slice Ak4 n0.links.length ck4] 32)) := (by repeat (first | exact Ext.refl _ | assumption | refine Ext.alloc ?_ _ | refine Ext.drew ?_ | refine Ext.drewN ?_ _ | refine Ext.setCell ?_ (by first | (simp; done) | (simp; omega) | omega) _ | refine Ext.trans ?_ (by assumption)))
  clear ba00 ba01 ba0g
  have ba0 := Hba0.out.ext hE
  clear Hba0
  have ba00 := ba0.at0
  have ba01 := ba0.at1
  have ba0g := ba0.1
  have Hba0 := Lib.hid ba0
  clear ba0
  replace H0 := Lib.hid (H0.out.up hE)
  replace R2 := Lib.hid (R2.out.up hE)
  replace O2 := Lib.hid (O2.out.ext hE)
  replace R4 := Lib.hid (R4.out.up hE)
  replace O4 := Lib.hid (O4.out.ext hE)
  replace hx : Ext w (w4.alloc (.cells #[.slice As4 n0.sets.length cs4, .slice Ak4 n0.links.length ck4] 32)) := hx.trans hE
  have Hbx0 := Lib.hid (Boxed.new w4 [.slice As4 n0.sets.length cs4, .slice Ak4 n0.links.length ck4] 32)
  clear hE
  refine Calls.mono (impl_StatementText (.slice As4 n0.sets.length cs4) (.slice Ak4 n0.links.length ck4) n0 x1 _ (R4.out.up (by repeat (first | exact Ext.refl _ | assumption | refine Ext.alloc ?_ _ | refine Ext.drew ?_ | refine Ext.drewN ?_ _ | refine Ext.setCell ?_ (by first | (simp; done) | (simp; omega) | omega) _ | refine Ext.trans ?_ (by assumption)))) (Ht.out.ext hx)) ?_
  rintro e w6 ⟨rfl, hx6⟩
  have hE : Ext (w4.alloc (.cells #[.slice As4 n0.sets.length cs4, .slice Ak4 n0.links.length ck4] 32)) w6 := (by repeat (first | exact Ext.refl _ | assumption | refine Ext.alloc ?_ _ | refine Ext.drew ?_ | refine Ext.drewN ?_ _ | refine Ext.setCell ?_ (by first | (simp; done) | (simp; omega) | omega) _ | refine Ext.trans ?_ (by assumption)))
  clear ba00 ba01 ba0g
  have ba0 := Hba0.out.ext hE
  clear Hba0
  have ba00 := ba0.at0
  have ba01 := ba0.at1
  have ba0g := ba0.1
  have Hba0 := Lib.hid ba0
  clear ba0
  have bx0 := Hbx0.out.ext hE
  clear Hbx0
  have bx00 := bx0.at0
  have bx01 := bx0.at1
  have bx0g := bx0.1
  have Hbx0 := Lib.hid bx0
  clear bx0
  replace H0 := Lib.hid (H0.out.up hE)
  replace R2 := Lib.hid (R2.out.up hE)
  replace O2 := Lib.hid (O2.out.ext hE)
  replace R4 := Lib.hid (R4.out.up hE)
  replace O4 := Lib.hid (O4.out.ext hE)
  replace hx : Ext w w6 := hx.trans hE
  clear hE
  clear hx6
  go_wp2_with fail
  go_region_held3 (fun w' => w'.cell? ⟨w.heap.size, 0, none⟩ = some (s0) ∧ w'.cell? ⟨w.heap.size, 1, none⟩ = some (k0) ∧ w'.cell? ⟨w4.heap.size, 0, none⟩ = some (.slice As4 n0.sets.length cs4) ∧ w'.cell? ⟨w4.heap.size, 1, none⟩ = some (.slice Ak4 n0.links.length ck4) ∧ Ext w6 w')
    (exact Ext.and_cell ba0g ba00 (by repeat (first | exact Ext.refl _ | assumption | refine Ext.alloc ?_ _ | refine Ext.drew ?_ | refine Ext.drewN ?_ _ | refine Ext.setCell ?_ (by first | (simp; done) | (simp; omega) | omega) _ | refine Ext.trans ?_ (by assumption))) (Ext.and_cell ba0g ba01 (by repeat (first | exact Ext.refl _ | assumption | refine Ext.alloc ?_ _ | refine Ext.drew ?_ | refine Ext.drewN ?_ _ | refine Ext.setCell ?_ (by first | (simp; done) | (simp; omega) | omega) _ | refine Ext.trans ?_ (by assumption))) (Ext.and_cell bx0g bx00 (by repeat (first | exact Ext.refl _ | assumption | refine Ext.alloc ?_ _ | refine Ext.drew ?_ | refine Ext.drewN ?_ _ | refine Ext.setCell ?_ (by first | (simp; done) | (simp; omega) | omega) _ | refine Ext.trans ?_ (by assumption))) (Ext.and_cell bx0g bx01 (by repeat (first | exact Ext.refl _ | assumption | refine Ext.alloc ?_ _ | refine Ext.drew ?_ | refine Ext.drewN ?_ _ | refine Ext.setCell ?_ (by first | (simp; done) | (simp; omega) | omega) _ | refine Ext.trans ?_ (by assumption))) (by repeat (first | exact Ext.refl _ | assumption | refine Ext.alloc ?_ _ | refine Ext.drew ?_ | refine Ext.drewN ?_ _ | refine Ext.setCell ?_ (by first | (simp; done) | (simp; omega) | omega) _ | refine Ext.trans ?_ (by assumption)))))))
    (first
      | (go_at_call 8; refine Calls.mono (laws_toNetwork s0 k0 n0 _ (H0.out.up (by repeat (first | exact Ext.refl _ | assumption | refine Ext.alloc ?_ _ | refine Ext.drew ?_ | refine Ext.drewN ?_ _ | refine Ext.setCell ?_ (by first | (simp; done) | (simp; omega) | omega) _ | refine Ext.trans ?_ (by assumption)))) Hsm0.out) ?_; rintro e w7 ⟨sv7, kv7, rfl, hx7, ho7⟩)
      | (go_at_call 10; refine Calls.mono (laws_eqNetwork _ _ _ _ n0 _ (R4.out.up (by repeat (first | exact Ext.refl _ | assumption | refine Ext.alloc ?_ _ | refine Ext.drew ?_ | refine Ext.drewN ?_ _ | refine Ext.setCell ?_ (by first | (simp; done) | (simp; omega) | omega) _ | refine Ext.trans ?_ (by assumption)))) ((show NetIn w7 sv7 kv7 n0 from ho7.net.netIn).up (by repeat (first | exact Ext.refl _ | assumption | refine Ext.alloc ?_ _ | refine Ext.drew ?_ | refine Ext.drewN ?_ _ | refine Ext.setCell ?_ (by first | (simp; done) | (simp; omega) | omega) _ | refine Ext.trans ?_ (by assumption))))) ?_; rintro e w8 ⟨rfl, hx8⟩))
  have hE : Ext w6 w8 := (by repeat (first | exact Ext.refl _ | assumption | refine Ext.alloc ?_ _ | refine Ext.drew ?_ | refine Ext.drewN ?_ _ | refine Ext.setCell ?_ (by first | (simp; done) | (simp; omega) | omega) _ | refine Ext.trans ?_ (by assumption)))
  clear ba00 ba01 ba0g
  have ba0 := Hba0.out.ext hE
  clear Hba0
  have ba00 := ba0.at0
  have ba01 := ba0.at1
  have ba0g := ba0.1
  have Hba0 := Lib.hid ba0
  clear ba0
  clear bx00 bx01 bx0g
  have bx0 := Hbx0.out.ext hE
  clear Hbx0
  have bx00 := bx0.at0
  have bx01 := bx0.at1
  have bx0g := bx0.1
  have Hbx0 := Lib.hid bx0
  clear bx0
  replace H0 := Lib.hid (H0.out.up hE)
  replace R2 := Lib.hid (R2.out.up hE)
  replace O2 := Lib.hid (O2.out.ext hE)
  replace R4 := Lib.hid (R4.out.up hE)
  replace O4 := Lib.hid (O4.out.ext hE)
  replace hx : Ext w w8 := hx.trans hE
  clear hE hx7 ho7 hx8
  go_wp2_with fail
  go_ret
  exact ⟨rfl, hx⟩
end Go.Proofs.YtfmnkojjkjkdeaaDoor
