/- The law FnExactIsConflict, walked out of the contracts of the program's IsConflict and the reference's. -/
import Derived.Test.YtfociflfeednfaaIc
import Derived.Deep.RegionHeld3
namespace Go.Proofs.Ytfociflfeednfaa
set_option linter.unusedVariables false
set_option linter.unusedSimpArgs false
open Go.RowKit
attribute [local go_sem] cell_onto

set_option maxHeartbeats 4000000 in
theorem law_IsConflict (s0 k0 : Value) (n0 : Net) (v1 : Value) (l1 : List Int) (w : World) (h0 : NetIn w s0 k0 n0) (h1 : Ints w 0 w.heap.size v1 l1) :
    Calls Try.prog 3 #[.agg #[s0, k0], v1] w (RetX (.bool true) w) := by
  have H0 := Lib.hid h0
  clear h0
  obtain ⟨A1, c1, rfl, hl1, hc1⟩ := h1.len
  have H1 := Lib.hid h1
  clear h1
  go_enter Try.func3, Try.ntmps3
  by_cases hg1 : (l1.length : Int) ≤ 1048576
  case neg =>
    go_wp2_with fail
    go_ret
    exact ⟨rfl, (by repeat (first | exact Ext.refl _ | assumption | refine Ext.alloc ?_ _ | refine Ext.drew ?_ | refine Ext.drewN ?_ _ | refine Ext.setCell ?_ (by first | (simp; done) | (simp; omega) | omega) _ | refine Ext.trans ?_ (by assumption)))⟩
  go_wp2_with fail
  refine Calls.mono (laws_szNetwork s0 k0 n0 1048576 _ (by omega) (by omega) (H0.out.up (by repeat (first | exact Ext.refl _ | assumption | refine Ext.alloc ?_ _ | refine Ext.drew ?_ | refine Ext.drewN ?_ _ | refine Ext.setCell ?_ (by first | (simp; done) | (simp; omega) | omega) _ | refine Ext.trans ?_ (by assumption))))) ?_
  rintro e w1 ⟨r1, rfl, hx1, hra1, hrb1, hrc1⟩
  have hE : Ext w w1 := (by repeat (first | exact Ext.refl _ | assumption | refine Ext.alloc ?_ _ | refine Ext.drew ?_ | refine Ext.drewN ?_ _ | refine Ext.setCell ?_ (by first | (simp; done) | (simp; omega) | omega) _ | refine Ext.trans ?_ (by assumption)))
  have ba0 := (show Boxed w1 (w.heap.size) [s0, k0] from by have hb' := ((Boxed.new w [s0, k0] 25)).ext hx1; exact hb'); have ba00 := ba0.at0; have ba01 := ba0.at1; have ba0g := ba0.1; have Hba0 := Lib.hid ba0; clear ba0
  have hx : Ext w w1 := hE
  replace H0 := Lib.hid (H0.out.up hE)
  replace H1 := Lib.hid (H1.out.up hE)
  have Hr0 := Lib.hid hrc1
  clear hrc1 hx1 hE
  by_cases hneg1 : r1 < 0
  case pos =>
    go_wp2_with fail
    go_ret
    exact ⟨rfl, (by repeat (first | exact Ext.refl _ | assumption | refine Ext.alloc ?_ _ | refine Ext.drew ?_ | refine Ext.drewN ?_ _ | refine Ext.setCell ?_ (by first | (simp; done) | (simp; omega) | omega) _ | refine Ext.trans ?_ (by assumption)))⟩
  have Hsm0 := Lib.hid (Hr0.out (by omega))
  go_wp2_with fail
  have Hsm1 := Lib.hid (show l1.length ≤ 1048576 by omega)
  refine Calls.mono (laws_toNetwork s0 k0 n0 _ (H0.out.up (by repeat (first | exact Ext.refl _ | assumption | refine Ext.alloc ?_ _ | refine Ext.drew ?_ | refine Ext.drewN ?_ _ | refine Ext.setCell ?_ (by first | (simp; done) | (simp; omega) | omega) _ | refine Ext.trans ?_ (by assumption)))) Hsm0.out) ?_
  rintro e w2 ⟨sv2, kv2, rfl, hx2, ho2⟩
  have hE : Ext w1 w2 := (by repeat (first | exact Ext.refl _ | assumption | refine Ext.alloc ?_ _ | refine Ext.drew ?_ | refine Ext.drewN ?_ _ | refine Ext.setCell ?_ (by first | (simp; done) | (simp; omega) | omega) _ | refine Ext.trans ?_ (by assumption)))
  clear ba00 ba01 ba0g
  have ba0 := Hba0.out.ext hE
  clear Hba0
  have ba00 := ba0.at0
  have ba01 := ba0.at1
  have ba0g := ba0.1
  have Hba0 := Lib.hid ba0
  clear ba0
  replace H0 := Lib.hid (H0.out.up hE)
  replace H1 := Lib.hid (H1.out.up hE)
  replace hx : Ext w w2 := hx.trans hE
  clear hE
  have hp2 := ho2.net.parts
  obtain ⟨As2, cs2, rfl, _, _⟩ := hp2.1.len
  obtain ⟨Ak2, ck2, rfl, _, _⟩ := hp2.2.len
  have R2 := Lib.hid (show NetIn w2 _ _ n0 from ho2.net.netIn)
  have O2 := Lib.hid ho2
  clear ho2 hp2
  clear hx2
  go_wp2_with fail
  refine Calls.mono (laws_toInt64S _ l1 0 _ _ (H1.out.up (by repeat (first | exact Ext.refl _ | assumption | refine Ext.alloc ?_ _ | refine Ext.drew ?_ | refine Ext.drewN ?_ _ | refine Ext.setCell ?_ (by first | (simp; done) | (simp; omega) | omega) _ | refine Ext.trans ?_ (by assumption)))) (Nat.le_refl _) Hsm1.out) ?_
  rintro e w3 ⟨sv3, gv3, rfl, hx3, hg3, ho3⟩
  have hE : Ext w2 w3 := (by repeat (first | exact Ext.refl _ | assumption | refine Ext.alloc ?_ _ | refine Ext.drew ?_ | refine Ext.drewN ?_ _ | refine Ext.setCell ?_ (by first | (simp; done) | (simp; omega) | omega) _ | refine Ext.trans ?_ (by assumption)))
  clear ba00 ba01 ba0g
  have ba0 := Hba0.out.ext hE
  clear Hba0
  have ba00 := ba0.at0
  have ba01 := ba0.at1
  have ba0g := ba0.1
  have Hba0 := Lib.hid ba0
  clear ba0
  replace H0 := Lib.hid (H0.out.up hE)
  replace H1 := Lib.hid (H1.out.up hE)
  replace R2 := Lib.hid (R2.out.up hE)
  replace O2 := Lib.hid (O2.out.ext hE)
  replace hx : Ext w w3 := hx.trans hE
  clear hE
  obtain ⟨Av3, cv3, rfl⟩ := ho3.len
  have R3 := Lib.hid (show Ints w3 0 w3.heap.size _ l1 from ho3.row (fun hn => ⟨Nat.zero_le _, ho3.lt hn⟩))
  have O3 := Lib.hid ho3
  clear ho3
  clear hx3
  go_wp2_with fail
  refine Calls.mono (spec_IsConflict (.slice As2 n0.sets.length cs2) (.slice Ak2 n0.links.length ck2) (.slice Av3 l1.length cv3) n0 l1  _ (R2.out.up (by repeat (first | exact Ext.refl _ | assumption | refine Ext.alloc ?_ _ | refine Ext.drew ?_ | refine Ext.drewN ?_ _ | refine Ext.setCell ?_ (by first | (simp; done) | (simp; omega) | omega) _ | refine Ext.trans ?_ (by assumption)))) (R3.out.up (by repeat (first | exact Ext.refl _ | assumption | refine Ext.alloc ?_ _ | refine Ext.drew ?_ | refine Ext.drewN ?_ _ | refine Ext.setCell ?_ (by first | (simp; done) | (simp; omega) | omega) _ | refine Ext.trans ?_ (by assumption))))) ?_
  rintro e w4 ⟨rfl, hx4⟩
  have hE : Ext w3 w4 := (by repeat (first | exact Ext.refl _ | assumption | refine Ext.alloc ?_ _ | refine Ext.drew ?_ | refine Ext.drewN ?_ _ | refine Ext.setCell ?_ (by first | (simp; done) | (simp; omega) | omega) _ | refine Ext.trans ?_ (by assumption)))
  clear ba00 ba01 ba0g
  have ba0 := Hba0.out.ext hE
  clear Hba0
  have ba00 := ba0.at0
  have ba01 := ba0.at1
  have ba0g := ba0.1
  have Hba0 := Lib.hid ba0
  clear ba0
  replace H0 := Lib.hid (H0.out.up hE)
  replace H1 := Lib.hid (H1.out.up hE)
  replace R2 := Lib.hid (R2.out.up hE)
  replace O2 := Lib.hid (O2.out.ext hE)
  replace R3 := Lib.hid (R3.out.up hE)
  replace O3 := Lib.hid (O3.out.ext hE)
  replace hx : Ext w w4 := hx.trans hE
  clear hE
  clear hx4
  go_wp2_with fail
  refine Calls.mono (laws_toNetwork s0 k0 n0 _ (H0.out.up (by repeat (first | exact Ext.refl _ | assumption | refine Ext.alloc ?_ _ | refine Ext.drew ?_ | refine Ext.drewN ?_ _ | refine Ext.setCell ?_ (by first | (simp; done) | (simp; omega) | omega) _ | refine Ext.trans ?_ (by assumption)))) Hsm0.out) ?_
  rintro e w5 ⟨sv5, kv5, rfl, hx5, ho5⟩
  have hE : Ext w4 w5 := (by repeat (first | exact Ext.refl _ | assumption | refine Ext.alloc ?_ _ | refine Ext.drew ?_ | refine Ext.drewN ?_ _ | refine Ext.setCell ?_ (by first | (simp; done) | (simp; omega) | omega) _ | refine Ext.trans ?_ (by assumption)))
  clear ba00 ba01 ba0g
  have ba0 := Hba0.out.ext hE
  clear Hba0
  have ba00 := ba0.at0
  have ba01 := ba0.at1
  have ba0g := ba0.1
  have Hba0 := Lib.hid ba0
  clear ba0
  replace H0 := Lib.hid (H0.out.up hE)
  replace H1 := Lib.hid (H1.out.up hE)
  replace R2 := Lib.hid (R2.out.up hE)
  replace O2 := Lib.hid (O2.out.ext hE)
  replace R3 := Lib.hid (R3.out.up hE)
  replace O3 := Lib.hid (O3.out.ext hE)
  replace hx : Ext w w5 := hx.trans hE
  clear hE
  have hp5 := ho5.net.parts
  obtain ⟨As5, cs5, rfl, _, _⟩ := hp5.1.len
  obtain ⟨Ak5, ck5, rfl, _, _⟩ := hp5.2.len
  have R5 := Lib.hid (show NetIn w5 _ _ n0 from ho5.net.netIn)
  have O5 := Lib.hid ho5
  clear ho5 hp5
  clear hx5
  go_wp2_with fail
  have hE : Ext w5 (w5.alloc (.cells #[.slice As5 n0.sets.length cs5, .slice Ak5 n0.links.length ck5] 33)) := (by repeat (first | exact Ext.refl _ | assumption | refine Ext.alloc ?_ _ | refine Ext.drew ?_ | refine Ext.drewN ?_ _ | refine Ext.setCell ?_ (by first | (simp; done) | (simp; omega) | omega) _ | refine Ext.trans ?_ (by assumption)))
  clear ba00 ba01 ba0g
  have ba0 := Hba0.out.ext hE
  clear Hba0
  have ba00 := ba0.at0
  have ba01 := ba0.at1
  have ba0g := ba0.1
  have Hba0 := Lib.hid ba0
  clear ba0
  replace H0 := Lib.hid (H0.out.up hE)
  replace H1 := Lib.hid (H1.out.up hE)
  replace R2 := Lib.hid (R2.out.up hE)
  replace O2 := Lib.hid (O2.out.ext hE)
  replace R3 := Lib.hid (R3.out.up hE)
  replace O3 := Lib.hid (O3.out.ext hE)
  replace R5 := Lib.hid (R5.out.up hE)
  replace O5 := Lib.hid (O5.out.ext hE)
  replace hx : Ext w (w5.alloc (.cells #[.slice As5 n0.sets.length cs5, .slice Ak5 n0.links.length ck5] 33)) := hx.trans hE
  have Hbx0 := Lib.hid (Boxed.new w5 [.slice As5 n0.sets.length cs5, .slice Ak5 n0.links.length ck5] 33)
  clear hE
  refine Calls.mono (laws_toInt64S _ l1 0 _ _ (H1.out.up (by repeat (first | exact Ext.refl _ | assumption | refine Ext.alloc ?_ _ | refine Ext.drew ?_ | refine Ext.drewN ?_ _ | refine Ext.setCell ?_ (by first | (simp; done) | (simp; omega) | omega) _ | refine Ext.trans ?_ (by assumption)))) (Nat.le_refl _) Hsm1.out) ?_
  rintro e w7 ⟨sv7, gv7, rfl, hx7, hg7, ho7⟩
  have hE : Ext (w5.alloc (.cells #[.slice As5 n0.sets.length cs5, .slice Ak5 n0.links.length ck5] 33)) w7 := (by repeat (first | exact Ext.refl _ | assumption | refine Ext.alloc ?_ _ | refine Ext.drew ?_ | refine Ext.drewN ?_ _ | refine Ext.setCell ?_ (by first | (simp; done) | (simp; omega) | omega) _ | refine Ext.trans ?_ (by assumption)))
  clear ba00 ba01 ba0g
  have ba0 := Hba0.out.ext hE
  clear Hba0
  have ba00 := ba0.at0
  have ba01 := ba0.at1
  have ba0g := ba0.1
  have Hba0 := Lib.hid ba0
  clear ba0
  have bx0 := Hbx0.out.ext hE
  clear Hbx0
  have bx00 := bx0.at0
  have bx01 := bx0.at1
  have bx0g := bx0.1
  have Hbx0 := Lib.hid bx0
  clear bx0
  replace H0 := Lib.hid (H0.out.up hE)
  replace H1 := Lib.hid (H1.out.up hE)
  replace R2 := Lib.hid (R2.out.up hE)
  replace O2 := Lib.hid (O2.out.ext hE)
  replace R3 := Lib.hid (R3.out.up hE)
  replace O3 := Lib.hid (O3.out.ext hE)
  replace R5 := Lib.hid (R5.out.up hE)
  replace O5 := Lib.hid (O5.out.ext hE)
  replace hx : Ext w w7 := hx.trans hE
  clear hE
  obtain ⟨Av7, cv7, rfl⟩ := ho7.len
  have R7 := Lib.hid (show Ints w7 0 w7.heap.size _ l1 from ho7.row (fun hn => ⟨Nat.zero_le _, ho7.lt hn⟩))
  have O7 := Lib.hid ho7
  clear ho7
  clear hx7
  go_wp2_with fail
  refine Calls.mono (impl_IsConflict (.slice As5 n0.sets.length cs5) (.slice Ak5 n0.links.length ck5) (.slice Av7 l1.length cv7) n0 l1  _ (R5.out.up (by repeat (first | exact Ext.refl _ | assumption | refine Ext.alloc ?_ _ | refine Ext.drew ?_ | refine Ext.drewN ?_ _ | refine Ext.setCell ?_ (by first | (simp; done) | (simp; omega) | omega) _ | refine Ext.trans ?_ (by assumption)))) (R7.out.up (by repeat (first | exact Ext.refl _ | assumption | refine Ext.alloc ?_ _ | refine Ext.drew ?_ | refine Ext.drewN ?_ _ | refine Ext.setCell ?_ (by first | (simp; done) | (simp; omega) | omega) _ | refine Ext.trans ?_ (by assumption))))) ?_
  rintro e w9 ⟨rfl, hx9⟩
  have hE : Ext w7 w9 := (by repeat (first | exact Ext.refl _ | assumption | refine Ext.alloc ?_ _ | refine Ext.drew ?_ | refine Ext.drewN ?_ _ | refine Ext.setCell ?_ (by first | (simp; done) | (simp; omega) | omega) _ | refine Ext.trans ?_ (by assumption)))
  clear ba00 ba01 ba0g
  have ba0 := Hba0.out.ext hE
  clear Hba0
  have ba00 := ba0.at0
  have ba01 := ba0.at1
  have ba0g := ba0.1
  have Hba0 := Lib.hid ba0
  clear ba0
  clear bx00 bx01 bx0g
  have bx0 := Hbx0.out.ext hE
  clear Hbx0
  have bx00 := bx0.at0
  have bx01 := bx0.at1
  have bx0g := bx0.1
  have Hbx0 := Lib.hid bx0
  clear bx0
  replace H0 := Lib.hid (H0.out.up hE)
  replace H1 := Lib.hid (H1.out.up hE)
  replace R2 := Lib.hid (R2.out.up hE)
  replace O2 := Lib.hid (O2.out.ext hE)
  replace R3 := Lib.hid (R3.out.up hE)
  replace O3 := Lib.hid (O3.out.ext hE)
  replace R5 := Lib.hid (R5.out.up hE)
  replace O5 := Lib.hid (O5.out.ext hE)
  replace R7 := Lib.hid (R7.out.up hE)
  replace O7 := Lib.hid (O7.out.ext hE)
  replace hx : Ext w w9 := hx.trans hE
  clear hE
  clear hx9
  go_wp2_with fail
  go_region_held3 (fun w' => w'.cell? ⟨w.heap.size, 0, none⟩ = some (s0) ∧ w'.cell? ⟨w.heap.size, 1, none⟩ = some (k0) ∧ w'.cell? ⟨w5.heap.size, 0, none⟩ = some (.slice As5 n0.sets.length cs5) ∧ w'.cell? ⟨w5.heap.size, 1, none⟩ = some (.slice Ak5 n0.links.length ck5) ∧ Ext w9 w')
    (exact Ext.and_cell ba0g ba00 (by repeat (first | exact Ext.refl _ | assumption | refine Ext.alloc ?_ _ | refine Ext.drew ?_ | refine Ext.drewN ?_ _ | refine Ext.setCell ?_ (by first | (simp; done) | (simp; omega) | omega) _ | refine Ext.trans ?_ (by assumption))) (Ext.and_cell ba0g ba01 (by repeat (first | exact Ext.refl _ | assumption | refine Ext.alloc ?_ _ | refine Ext.drew ?_ | refine Ext.drewN ?_ _ | refine Ext.setCell ?_ (by first | (simp; done) | (simp; omega) | omega) _ | refine Ext.trans ?_ (by assumption))) (Ext.and_cell bx0g bx00 (by repeat (first | exact Ext.refl _ | assumption | refine Ext.alloc ?_ _ | refine Ext.drew ?_ | refine Ext.drewN ?_ _ | refine Ext.setCell ?_ (by first | (simp; done) | (simp; omega) | omega) _ | refine Ext.trans ?_ (by assumption))) (Ext.and_cell bx0g bx01 (by repeat (first | exact Ext.refl _ | assumption | refine Ext.alloc ?_ _ | refine Ext.drew ?_ | refine Ext.drewN ?_ _ | refine Ext.setCell ?_ (by first | (simp; done) | (simp; omega) | omega) _ | refine Ext.trans ?_ (by assumption))) (by repeat (first | exact Ext.refl _ | assumption | refine Ext.alloc ?_ _ | refine Ext.drew ?_ | refine Ext.drewN ?_ _ | refine Ext.setCell ?_ (by first | (simp; done) | (simp; omega) | omega) _ | refine Ext.trans ?_ (by assumption)))))))
    (first
      | (go_at_call 9; refine Calls.mono (laws_toNetwork s0 k0 n0 _ (H0.out.up (by repeat (first | exact Ext.refl _ | assumption | refine Ext.alloc ?_ _ | refine Ext.drew ?_ | refine Ext.drewN ?_ _ | refine Ext.setCell ?_ (by first | (simp; done) | (simp; omega) | omega) _ | refine Ext.trans ?_ (by assumption)))) Hsm0.out) ?_; rintro e w10 ⟨sv10, kv10, rfl, hx10, ho10⟩)
      | (go_at_call 12; refine Calls.mono (laws_eqNetwork _ _ _ _ n0 _ (R5.out.up (by repeat (first | exact Ext.refl _ | assumption | refine Ext.alloc ?_ _ | refine Ext.drew ?_ | refine Ext.drewN ?_ _ | refine Ext.setCell ?_ (by first | (simp; done) | (simp; omega) | omega) _ | refine Ext.trans ?_ (by assumption)))) ((show NetIn w10 sv10 kv10 n0 from ho10.net.netIn).up (by repeat (first | exact Ext.refl _ | assumption | refine Ext.alloc ?_ _ | refine Ext.drew ?_ | refine Ext.drewN ?_ _ | refine Ext.setCell ?_ (by first | (simp; done) | (simp; omega) | omega) _ | refine Ext.trans ?_ (by assumption))))) ?_; rintro e w11 ⟨rfl, hx11⟩))
  have hE : Ext w9 w11 := (by repeat (first | exact Ext.refl _ | assumption | refine Ext.alloc ?_ _ | refine Ext.drew ?_ | refine Ext.drewN ?_ _ | refine Ext.setCell ?_ (by first | (simp; done) | (simp; omega) | omega) _ | refine Ext.trans ?_ (by assumption)))
  clear ba00 ba01 ba0g
  have ba0 := Hba0.out.ext hE
  clear Hba0
  have ba00 := ba0.at0
  have ba01 := ba0.at1
  have ba0g := ba0.1
  have Hba0 := Lib.hid ba0
  clear ba0
  clear bx00 bx01 bx0g
  have bx0 := Hbx0.out.ext hE
  clear Hbx0
  have bx00 := bx0.at0
  have bx01 := bx0.at1
  have bx0g := bx0.1
  have Hbx0 := Lib.hid bx0
  clear bx0
  replace H0 := Lib.hid (H0.out.up hE)
  replace H1 := Lib.hid (H1.out.up hE)
  replace R2 := Lib.hid (R2.out.up hE)
  replace O2 := Lib.hid (O2.out.ext hE)
  replace R3 := Lib.hid (R3.out.up hE)
  replace O3 := Lib.hid (O3.out.ext hE)
  replace R5 := Lib.hid (R5.out.up hE)
  replace O5 := Lib.hid (O5.out.ext hE)
  replace R7 := Lib.hid (R7.out.up hE)
  replace O7 := Lib.hid (O7.out.ext hE)
  replace hx : Ext w w11 := hx.trans hE
  clear hE hx10 ho10 hx11
  go_wp2_with fail
  refine Calls.mono (laws_toInt64S _ l1 0 _ _ (H1.out.up (by repeat (first | exact Ext.refl _ | assumption | refine Ext.alloc ?_ _ | refine Ext.drew ?_ | refine Ext.drewN ?_ _ | refine Ext.setCell ?_ (by first | (simp; done) | (simp; omega) | omega) _ | refine Ext.trans ?_ (by assumption)))) (Nat.le_refl _) Hsm1.out) ?_
  rintro e w12 ⟨sv12, gv12, rfl, hx12, hg12, ho12⟩
  have hE : Ext w11 w12 := (by repeat (first | exact Ext.refl _ | assumption | refine Ext.alloc ?_ _ | refine Ext.drew ?_ | refine Ext.drewN ?_ _ | refine Ext.setCell ?_ (by first | (simp; done) | (simp; omega) | omega) _ | refine Ext.trans ?_ (by assumption)))
  clear ba00 ba01 ba0g
  have ba0 := Hba0.out.ext hE
  clear Hba0
  have ba00 := ba0.at0
  have ba01 := ba0.at1
  have ba0g := ba0.1
  have Hba0 := Lib.hid ba0
  clear ba0
  clear bx00 bx01 bx0g
  have bx0 := Hbx0.out.ext hE
  clear Hbx0
  have bx00 := bx0.at0
  have bx01 := bx0.at1
  have bx0g := bx0.1
  have Hbx0 := Lib.hid bx0
  clear bx0
  replace H0 := Lib.hid (H0.out.up hE)
  replace H1 := Lib.hid (H1.out.up hE)
  replace R2 := Lib.hid (R2.out.up hE)
  replace O2 := Lib.hid (O2.out.ext hE)
  replace R3 := Lib.hid (R3.out.up hE)
  replace O3 := Lib.hid (O3.out.ext hE)
  replace R5 := Lib.hid (R5.out.up hE)
  replace O5 := Lib.hid (O5.out.ext hE)
  replace R7 := Lib.hid (R7.out.up hE)
  replace O7 := Lib.hid (O7.out.ext hE)
  replace hx : Ext w w12 := hx.trans hE
  clear hE
  have R12 := Lib.hid (show Ints w12 0 w12.heap.size _ l1 from ho12.row (fun hn => ⟨Nat.zero_le _, ho12.lt hn⟩))
  clear hx12 hg12 ho12
  go_wp2_with fail
  refine Calls.mono (laws_eqInt64S _ _ l1 _ (R7.out.up (by repeat (first | exact Ext.refl _ | assumption | refine Ext.alloc ?_ _ | refine Ext.drew ?_ | refine Ext.drewN ?_ _ | refine Ext.setCell ?_ (by first | (simp; done) | (simp; omega) | omega) _ | refine Ext.trans ?_ (by assumption)))) (R12.out.up (by repeat (first | exact Ext.refl _ | assumption | refine Ext.alloc ?_ _ | refine Ext.drew ?_ | refine Ext.drewN ?_ _ | refine Ext.setCell ?_ (by first | (simp; done) | (simp; omega) | omega) _ | refine Ext.trans ?_ (by assumption))))) ?_
  rintro e w13 ⟨rfl, hx13⟩
  have hE : Ext w12 w13 := (by repeat (first | exact Ext.refl _ | assumption | refine Ext.alloc ?_ _ | refine Ext.drew ?_ | refine Ext.drewN ?_ _ | refine Ext.setCell ?_ (by first | (simp; done) | (simp; omega) | omega) _ | refine Ext.trans ?_ (by assumption)))
  clear ba00 ba01 ba0g
  have ba0 := Hba0.out.ext hE
  clear Hba0
  have ba00 := ba0.at0
  have ba01 := ba0.at1
  have ba0g := ba0.1
  have Hba0 := Lib.hid ba0
  clear ba0
  clear bx00 bx01 bx0g
  have bx0 := Hbx0.out.ext hE
  clear Hbx0
  have bx00 := bx0.at0
  have bx01 := bx0.at1
  have bx0g := bx0.1
  have Hbx0 := Lib.hid bx0
  clear bx0
  replace H0 := Lib.hid (H0.out.up hE)
  replace H1 := Lib.hid (H1.out.up hE)
  replace R2 := Lib.hid (R2.out.up hE)
  replace O2 := Lib.hid (O2.out.ext hE)
  replace R3 := Lib.hid (R3.out.up hE)
  replace O3 := Lib.hid (O3.out.ext hE)
  replace R5 := Lib.hid (R5.out.up hE)
  replace O5 := Lib.hid (O5.out.ext hE)
  replace R7 := Lib.hid (R7.out.up hE)
  replace O7 := Lib.hid (O7.out.ext hE)
  replace R12 := Lib.hid (R12.out.up hE)
  replace hx : Ext w w13 := hx.trans hE
  clear hE
  clear hx13
  go_wp2_with fail
  go_ret
  exact ⟨rfl, hx⟩
end Go.Proofs.Ytfociflfeednfaa
