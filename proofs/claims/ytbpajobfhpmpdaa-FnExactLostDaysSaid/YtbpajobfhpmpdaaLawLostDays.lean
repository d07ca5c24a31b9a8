/- The law FnExactLostDays, walked out of the contracts of the program's LostDays and the reference's. -/
import Derived.Test.YtbpajobfhpmpdaaH
import Derived.Deep.RegionHeld3
namespace Go.Proofs.Ytbpajobfhpmpdaa
set_option linter.unusedVariables false
set_option linter.unusedSimpArgs false
open Go.RowKit
attribute [local go_sem] cell_onto

set_option maxHeartbeats 4000000 in
theorem law_LostDays (s0 k0 : Value) (n0 : Net) (s1 k1 : Value) (n1 : Net) (w : World) (h0 : NetIn w s0 k0 n0) (h1 : NetIn w s1 k1 n1) :
    Calls Try.prog 5 #[.agg #[s0, k0], .agg #[s1, k1]] w (RetX (.bool true) w) := by
  have H0 := Lib.hid h0
  clear h0
  have H1 := Lib.hid h1
  clear h1
  go_enter Try.func5, Try.ntmps5
  go_wp2_with fail
  refine Calls.mono (laws_szNetwork s0 k0 n0 1048576 _ (by omega) (by omega) (H0.out.up (by repeat (first | exact Ext.refl _ | assumption | refine Ext.alloc ?_ _ | refine Ext.drew ?_ | refine Ext.drewN ?_ _ | refine Ext.setCell ?_ (by simp) _ | refine Ext.trans ?_ (by assumption))))) ?_
  rintro e w1 ⟨r1, rfl, hx1, hra1, hrb1, hrc1⟩
  have hE : Ext w w1 := (by repeat (first | exact Ext.refl _ | assumption | refine Ext.alloc ?_ _ | refine Ext.drew ?_ | refine Ext.drewN ?_ _ | refine Ext.setCell ?_ (by simp) _ | refine Ext.trans ?_ (by assumption)))
  have ba0 := (show Boxed w1 (w.heap.size) [s0, k0] from by have hb' := ((Boxed.new w [s0, k0] 25).ext ((Ext.refl _).alloc _)).ext hx1; exact hb'); have ba00 := ba0.at0; have ba01 := ba0.at1; have ba0g := ba0.1; have Hba0 := Lib.hid ba0; clear ba0
  have ba1 := (show Boxed w1 (w.heap.size + 1) [s1, k1] from by have hb' := ((Boxed.new (w.alloc _) [s1, k1] 25)).ext hx1; rwa [World.size_alloc] at hb'); have ba10 := ba1.at0; have ba11 := ba1.at1; have ba1g := ba1.1; have Hba1 := Lib.hid ba1; clear ba1
  have hx : Ext w w1 := hE
  replace H0 := Lib.hid (H0.out.up hE)
  replace H1 := Lib.hid (H1.out.up hE)
  have Hr0 := Lib.hid hrc1
  clear hrc1 hx1 hE
  by_cases hneg1 : r1 < 0
  case pos =>
    go_wp2_with fail
    go_ret
    exact ⟨rfl, (by repeat (first | exact Ext.refl _ | assumption | refine Ext.alloc ?_ _ | refine Ext.drew ?_ | refine Ext.drewN ?_ _ | refine Ext.setCell ?_ (by simp) _ | refine Ext.trans ?_ (by assumption)))⟩
  have Hsm0 := Lib.hid (Hr0.out (by omega))
  go_wp2_with fail
  refine Calls.mono (laws_szNetwork s1 k1 n1 r1 _ (by omega) (by omega) (H1.out.up (by repeat (first | exact Ext.refl _ | assumption | refine Ext.alloc ?_ _ | refine Ext.drew ?_ | refine Ext.drewN ?_ _ | refine Ext.setCell ?_ (by simp) _ | refine Ext.trans ?_ (by assumption))))) ?_
  rintro e w2 ⟨r2, rfl, hx2, hra2, hrb2, hrc2⟩
  have hE : Ext w1 w2 := (by repeat (first | exact Ext.refl _ | assumption | refine Ext.alloc ?_ _ | refine Ext.drew ?_ | refine Ext.drewN ?_ _ | refine Ext.setCell ?_ (by simp) _ | refine Ext.trans ?_ (by assumption)))
  clear ba00 ba01 ba0g
  have ba0 := Hba0.out.ext hE
  clear Hba0
  have ba00 := ba0.at0
  have ba01 := ba0.at1
  have ba0g := ba0.1
  have Hba0 := Lib.hid ba0
  clear ba0
  clear ba10 ba11 ba1g
  have ba1 := Hba1.out.ext hE
  clear Hba1
  have ba10 := ba1.at0
  have ba11 := ba1.at1
  have ba1g := ba1.1
  have Hba1 := Lib.hid ba1
  clear ba1
  replace H0 := Lib.hid (H0.out.up hE)
  replace H1 := Lib.hid (H1.out.up hE)
  replace hx : Ext w w2 := hx.trans hE
  have Hr1 := Lib.hid hrc2
  clear hrc2 hx2 hE
  by_cases hneg2 : r2 < 0
  case pos =>
    go_wp2_with fail
    go_ret
    exact ⟨rfl, (by repeat (first | exact Ext.refl _ | assumption | refine Ext.alloc ?_ _ | refine Ext.drew ?_ | refine Ext.drewN ?_ _ | refine Ext.setCell ?_ (by simp) _ | refine Ext.trans ?_ (by assumption)))⟩
  have Hsm1 := Lib.hid (Hr1.out (by omega))
  go_wp2_with fail
  go_region_held3 (fun w' => w'.cell? ⟨w.heap.size, 0, none⟩ = some (s0) ∧ w'.cell? ⟨w.heap.size, 1, none⟩ = some (k0) ∧ w'.cell? ⟨w.heap.size + 1, 0, none⟩ = some (s1) ∧ w'.cell? ⟨w.heap.size + 1, 1, none⟩ = some (k1) ∧ Ext w2 w')
    (exact Ext.and_cell ba0g ba00 (by repeat (first | exact Ext.refl _ | assumption | refine Ext.alloc ?_ _ | refine Ext.drew ?_ | refine Ext.drewN ?_ _ | refine Ext.setCell ?_ (by simp) _ | refine Ext.trans ?_ (by assumption))) (Ext.and_cell ba0g ba01 (by repeat (first | exact Ext.refl _ | assumption | refine Ext.alloc ?_ _ | refine Ext.drew ?_ | refine Ext.drewN ?_ _ | refine Ext.setCell ?_ (by simp) _ | refine Ext.trans ?_ (by assumption))) (Ext.and_cell ba1g ba10 (by repeat (first | exact Ext.refl _ | assumption | refine Ext.alloc ?_ _ | refine Ext.drew ?_ | refine Ext.drewN ?_ _ | refine Ext.setCell ?_ (by simp) _ | refine Ext.trans ?_ (by assumption))) (Ext.and_cell ba1g ba11 (by repeat (first | exact Ext.refl _ | assumption | refine Ext.alloc ?_ _ | refine Ext.drew ?_ | refine Ext.drewN ?_ _ | refine Ext.setCell ?_ (by simp) _ | refine Ext.trans ?_ (by assumption))) (by repeat (first | exact Ext.refl _ | assumption | refine Ext.alloc ?_ _ | refine Ext.drew ?_ | refine Ext.drewN ?_ _ | refine Ext.setCell ?_ (by simp) _ | refine Ext.trans ?_ (by assumption)))))))
    (first
      | (go_at_call_of 11 (Value.agg #[s0, k0]); refine Calls.mono (laws_toNetwork s0 k0 n0 _ (H0.out.up (by repeat (first | exact Ext.refl _ | assumption | refine Ext.alloc ?_ _ | refine Ext.drew ?_ | refine Ext.drewN ?_ _ | refine Ext.setCell ?_ (by simp) _ | refine Ext.trans ?_ (by assumption)))) Hsm0.out) ?_; rintro e w3 ⟨sv3, kv3, rfl, hx3, ho3⟩)
      | (go_at_call_of 11 (Value.agg #[s1, k1]); refine Calls.mono (laws_toNetwork s1 k1 n1 _ (H1.out.up (by repeat (first | exact Ext.refl _ | assumption | refine Ext.alloc ?_ _ | refine Ext.drew ?_ | refine Ext.drewN ?_ _ | refine Ext.setCell ?_ (by simp) _ | refine Ext.trans ?_ (by assumption)))) Hsm1.out) ?_; rintro e w4 ⟨sv4, kv4, rfl, hx4, ho4⟩)
      | (go_at_call 16; refine Calls.mono (spec_LostDays sv3 kv3 sv4 kv4 n0 n1  _ ((show NetIn w3 sv3 kv3 n0 from ho3.net.netIn).up (by repeat (first | exact Ext.refl _ | assumption | refine Ext.alloc ?_ _ | refine Ext.drew ?_ | refine Ext.drewN ?_ _ | refine Ext.setCell ?_ (by simp) _ | refine Ext.trans ?_ (by assumption)))) ((show NetIn w4 sv4 kv4 n1 from ho4.net.netIn).up (by repeat (first | exact Ext.refl _ | assumption | refine Ext.alloc ?_ _ | refine Ext.drew ?_ | refine Ext.drewN ?_ _ | refine Ext.setCell ?_ (by simp) _ | refine Ext.trans ?_ (by assumption))))) ?_; rintro e w5 ⟨rfl, hx5⟩))
  have hE : Ext w2 w5 := (by repeat (first | exact Ext.refl _ | assumption | refine Ext.alloc ?_ _ | refine Ext.drew ?_ | refine Ext.drewN ?_ _ | refine Ext.setCell ?_ (by simp) _ | refine Ext.trans ?_ (by assumption)))
  clear ba00 ba01 ba0g
  have ba0 := Hba0.out.ext hE
  clear Hba0
  have ba00 := ba0.at0
  have ba01 := ba0.at1
  have ba0g := ba0.1
  have Hba0 := Lib.hid ba0
  clear ba0
  clear ba10 ba11 ba1g
  have ba1 := Hba1.out.ext hE
  clear Hba1
  have ba10 := ba1.at0
  have ba11 := ba1.at1
  have ba1g := ba1.1
  have Hba1 := Lib.hid ba1
  clear ba1
  replace H0 := Lib.hid (H0.out.up hE)
  replace H1 := Lib.hid (H1.out.up hE)
  replace hx : Ext w w5 := hx.trans hE
  clear hE
  clear hx3 ho3 hx4 ho4 hx5
  go_wp2_with fail
  refine Calls.mono (laws_toNetwork s0 k0 n0 _ (H0.out.up (by repeat (first | exact Ext.refl _ | assumption | refine Ext.alloc ?_ _ | refine Ext.drew ?_ | refine Ext.drewN ?_ _ | refine Ext.setCell ?_ (by simp) _ | refine Ext.trans ?_ (by assumption)))) Hsm0.out) ?_
  rintro e w6 ⟨sv6, kv6, rfl, hx6, ho6⟩
  have hE : Ext w5 w6 := (by repeat (first | exact Ext.refl _ | assumption | refine Ext.alloc ?_ _ | refine Ext.drew ?_ | refine Ext.drewN ?_ _ | refine Ext.setCell ?_ (by simp) _ | refine Ext.trans ?_ (by assumption)))
  clear ba00 ba01 ba0g
  have ba0 := Hba0.out.ext hE
  clear Hba0
  have ba00 := ba0.at0
  have ba01 := ba0.at1
  have ba0g := ba0.1
  have Hba0 := Lib.hid ba0
  clear ba0
  clear ba10 ba11 ba1g
  have ba1 := Hba1.out.ext hE
  clear Hba1
  have ba10 := ba1.at0
  have ba11 := ba1.at1
  have ba1g := ba1.1
  have Hba1 := Lib.hid ba1
  clear ba1
  replace H0 := Lib.hid (H0.out.up hE)
  replace H1 := Lib.hid (H1.out.up hE)
  replace hx : Ext w w6 := hx.trans hE
  clear hE
  have hp6 := ho6.net.parts
  obtain ⟨As6, cs6, rfl, _, _⟩ := hp6.1.len
  obtain ⟨Ak6, ck6, rfl, _, _⟩ := hp6.2.len
  have R6 := Lib.hid (show NetIn w6 _ _ n0 from ho6.net.netIn)
  have O6 := Lib.hid ho6
  clear ho6 hp6
  clear hx6
  go_wp2_with fail
  have hE : Ext w6 (w6.alloc (.cells #[.slice As6 n0.sets.length cs6, .slice Ak6 n0.links.length ck6] 31)) := (by repeat (first | exact Ext.refl _ | assumption | refine Ext.alloc ?_ _ | refine Ext.drew ?_ | refine Ext.drewN ?_ _ | refine Ext.setCell ?_ (by simp) _ | refine Ext.trans ?_ (by assumption)))
  clear ba00 ba01 ba0g
  have ba0 := Hba0.out.ext hE
  clear Hba0
  have ba00 := ba0.at0
  have ba01 := ba0.at1
  have ba0g := ba0.1
  have Hba0 := Lib.hid ba0
  clear ba0
  clear ba10 ba11 ba1g
  have ba1 := Hba1.out.ext hE
  clear Hba1
  have ba10 := ba1.at0
  have ba11 := ba1.at1
  have ba1g := ba1.1
  have Hba1 := Lib.hid ba1
  clear ba1
  replace H0 := Lib.hid (H0.out.up hE)
  replace H1 := Lib.hid (H1.out.up hE)
  replace R6 := Lib.hid (R6.out.up hE)
  replace O6 := Lib.hid (O6.out.ext hE)
  replace hx : Ext w (w6.alloc (.cells #[.slice As6 n0.sets.length cs6, .slice Ak6 n0.links.length ck6] 31)) := hx.trans hE
  have Hbx0 := Lib.hid (Boxed.new w6 [.slice As6 n0.sets.length cs6, .slice Ak6 n0.links.length ck6] 31)
  clear hE
  refine Calls.mono (laws_toNetwork s1 k1 n1 _ (H1.out.up (by repeat (first | exact Ext.refl _ | assumption | refine Ext.alloc ?_ _ | refine Ext.drew ?_ | refine Ext.drewN ?_ _ | refine Ext.setCell ?_ (by simp) _ | refine Ext.trans ?_ (by assumption)))) Hsm1.out) ?_
  rintro e w8 ⟨sv8, kv8, rfl, hx8, ho8⟩
  have hE : Ext (w6.alloc (.cells #[.slice As6 n0.sets.length cs6, .slice Ak6 n0.links.length ck6] 31)) w8 := (by repeat (first | exact Ext.refl _ | assumption | refine Ext.alloc ?_ _ | refine Ext.drew ?_ | refine Ext.drewN ?_ _ | refine Ext.setCell ?_ (by simp) _ | refine Ext.trans ?_ (by assumption)))
  clear ba00 ba01 ba0g
  have ba0 := Hba0.out.ext hE
  clear Hba0
  have ba00 := ba0.at0
  have ba01 := ba0.at1
  have ba0g := ba0.1
  have Hba0 := Lib.hid ba0
  clear ba0
  clear ba10 ba11 ba1g
  have ba1 := Hba1.out.ext hE
  clear Hba1
  have ba10 := ba1.at0
  have ba11 := ba1.at1
  have ba1g := ba1.1
  have Hba1 := Lib.hid ba1
  clear ba1
  have bx0 := Hbx0.out.ext hE
  clear Hbx0
  have bx00 := bx0.at0
  have bx01 := bx0.at1
  have bx0g := bx0.1
  have Hbx0 := Lib.hid bx0
  clear bx0
  replace H0 := Lib.hid (H0.out.up hE)
  replace H1 := Lib.hid (H1.out.up hE)
  replace R6 := Lib.hid (R6.out.up hE)
  replace O6 := Lib.hid (O6.out.ext hE)
  replace hx : Ext w w8 := hx.trans hE
  clear hE
  have hp8 := ho8.net.parts
  obtain ⟨As8, cs8, rfl, _, _⟩ := hp8.1.len
  obtain ⟨Ak8, ck8, rfl, _, _⟩ := hp8.2.len
  have R8 := Lib.hid (show NetIn w8 _ _ n1 from ho8.net.netIn)
  have O8 := Lib.hid ho8
  clear ho8 hp8
  clear hx8
  go_wp2_with fail
  have hE : Ext w8 (w8.alloc (.cells #[.slice As8 n1.sets.length cs8, .slice Ak8 n1.links.length ck8] 31)) := (by repeat (first | exact Ext.refl _ | assumption | refine Ext.alloc ?_ _ | refine Ext.drew ?_ | refine Ext.drewN ?_ _ | refine Ext.setCell ?_ (by simp) _ | refine Ext.trans ?_ (by assumption)))
  clear ba00 ba01 ba0g
  have ba0 := Hba0.out.ext hE
  clear Hba0
  have ba00 := ba0.at0
  have ba01 := ba0.at1
  have ba0g := ba0.1
  have Hba0 := Lib.hid ba0
  clear ba0
  clear ba10 ba11 ba1g
  have ba1 := Hba1.out.ext hE
  clear Hba1
  have ba10 := ba1.at0
  have ba11 := ba1.at1
  have ba1g := ba1.1
  have Hba1 := Lib.hid ba1
  clear ba1
  clear bx00 bx01 bx0g
  have bx0 := Hbx0.out.ext hE
  clear Hbx0
  have bx00 := bx0.at0
  have bx01 := bx0.at1
  have bx0g := bx0.1
  have Hbx0 := Lib.hid bx0
  clear bx0
  replace H0 := Lib.hid (H0.out.up hE)
  replace H1 := Lib.hid (H1.out.up hE)
  replace R6 := Lib.hid (R6.out.up hE)
  replace O6 := Lib.hid (O6.out.ext hE)
  replace R8 := Lib.hid (R8.out.up hE)
  replace O8 := Lib.hid (O8.out.ext hE)
  replace hx : Ext w (w8.alloc (.cells #[.slice As8 n1.sets.length cs8, .slice Ak8 n1.links.length ck8] 31)) := hx.trans hE
  have Hbx1 := Lib.hid (Boxed.new w8 [.slice As8 n1.sets.length cs8, .slice Ak8 n1.links.length ck8] 31)
  clear hE
  refine Calls.mono (impl_LostDays (.slice As6 n0.sets.length cs6) (.slice Ak6 n0.links.length ck6) (.slice As8 n1.sets.length cs8) (.slice Ak8 n1.links.length ck8) n0 n1  _ (R6.out.up (by repeat (first | exact Ext.refl _ | assumption | refine Ext.alloc ?_ _ | refine Ext.drew ?_ | refine Ext.drewN ?_ _ | refine Ext.setCell ?_ (by simp) _ | refine Ext.trans ?_ (by assumption)))) (R8.out.up (by repeat (first | exact Ext.refl _ | assumption | refine Ext.alloc ?_ _ | refine Ext.drew ?_ | refine Ext.drewN ?_ _ | refine Ext.setCell ?_ (by simp) _ | refine Ext.trans ?_ (by assumption))))) ?_
  rintro e w10 ⟨rfl, hx10⟩
  have hE : Ext (w8.alloc (.cells #[.slice As8 n1.sets.length cs8, .slice Ak8 n1.links.length ck8] 31)) w10 := (by repeat (first | exact Ext.refl _ | assumption | refine Ext.alloc ?_ _ | refine Ext.drew ?_ | refine Ext.drewN ?_ _ | refine Ext.setCell ?_ (by simp) _ | refine Ext.trans ?_ (by assumption)))
  clear ba00 ba01 ba0g
  have ba0 := Hba0.out.ext hE
  clear Hba0
  have ba00 := ba0.at0
  have ba01 := ba0.at1
  have ba0g := ba0.1
  have Hba0 := Lib.hid ba0
  clear ba0
  clear ba10 ba11 ba1g
  have ba1 := Hba1.out.ext hE
  clear Hba1
  have ba10 := ba1.at0
  have ba11 := ba1.at1
  have ba1g := ba1.1
  have Hba1 := Lib.hid ba1
  clear ba1
  clear bx00 bx01 bx0g
  have bx0 := Hbx0.out.ext hE
  clear Hbx0
  have bx00 := bx0.at0
  have bx01 := bx0.at1
  have bx0g := bx0.1
  have Hbx0 := Lib.hid bx0
  clear bx0
  have bx1 := Hbx1.out.ext hE
  clear Hbx1
  have bx10 := bx1.at0
  have bx11 := bx1.at1
  have bx1g := bx1.1
  have Hbx1 := Lib.hid bx1
  clear bx1
  replace H0 := Lib.hid (H0.out.up hE)
  replace H1 := Lib.hid (H1.out.up hE)
  replace R6 := Lib.hid (R6.out.up hE)
  replace O6 := Lib.hid (O6.out.ext hE)
  replace R8 := Lib.hid (R8.out.up hE)
  replace O8 := Lib.hid (O8.out.ext hE)
  replace hx : Ext w w10 := hx.trans hE
  clear hE
  clear hx10
  go_wp2_with fail
  go_region_held3 (fun w' => w'.cell? ⟨w.heap.size, 0, none⟩ = some (s0) ∧ w'.cell? ⟨w.heap.size, 1, none⟩ = some (k0) ∧ w'.cell? ⟨w.heap.size + 1, 0, none⟩ = some (s1) ∧ w'.cell? ⟨w.heap.size + 1, 1, none⟩ = some (k1) ∧ w'.cell? ⟨w6.heap.size, 0, none⟩ = some (.slice As6 n0.sets.length cs6) ∧ w'.cell? ⟨w6.heap.size, 1, none⟩ = some (.slice Ak6 n0.links.length ck6) ∧ w'.cell? ⟨w8.heap.size, 0, none⟩ = some (.slice As8 n1.sets.length cs8) ∧ w'.cell? ⟨w8.heap.size, 1, none⟩ = some (.slice Ak8 n1.links.length ck8) ∧ Ext w10 w')
    (exact Ext.and_cell ba0g ba00 (by repeat (first | exact Ext.refl _ | assumption | refine Ext.alloc ?_ _ | refine Ext.drew ?_ | refine Ext.drewN ?_ _ | refine Ext.setCell ?_ (by simp) _ | refine Ext.trans ?_ (by assumption))) (Ext.and_cell ba0g ba01 (by repeat (first | exact Ext.refl _ | assumption | refine Ext.alloc ?_ _ | refine Ext.drew ?_ | refine Ext.drewN ?_ _ | refine Ext.setCell ?_ (by simp) _ | refine Ext.trans ?_ (by assumption))) (Ext.and_cell ba1g ba10 (by repeat (first | exact Ext.refl _ | assumption | refine Ext.alloc ?_ _ | refine Ext.drew ?_ | refine Ext.drewN ?_ _ | refine Ext.setCell ?_ (by simp) _ | refine Ext.trans ?_ (by assumption))) (Ext.and_cell ba1g ba11 (by repeat (first | exact Ext.refl _ | assumption | refine Ext.alloc ?_ _ | refine Ext.drew ?_ | refine Ext.drewN ?_ _ | refine Ext.setCell ?_ (by simp) _ | refine Ext.trans ?_ (by assumption))) (Ext.and_cell bx0g bx00 (by repeat (first | exact Ext.refl _ | assumption | refine Ext.alloc ?_ _ | refine Ext.drew ?_ | refine Ext.drewN ?_ _ | refine Ext.setCell ?_ (by simp) _ | refine Ext.trans ?_ (by assumption))) (Ext.and_cell bx0g bx01 (by repeat (first | exact Ext.refl _ | assumption | refine Ext.alloc ?_ _ | refine Ext.drew ?_ | refine Ext.drewN ?_ _ | refine Ext.setCell ?_ (by simp) _ | refine Ext.trans ?_ (by assumption))) (Ext.and_cell bx1g bx10 (by repeat (first | exact Ext.refl _ | assumption | refine Ext.alloc ?_ _ | refine Ext.drew ?_ | refine Ext.drewN ?_ _ | refine Ext.setCell ?_ (by simp) _ | refine Ext.trans ?_ (by assumption))) (Ext.and_cell bx1g bx11 (by repeat (first | exact Ext.refl _ | assumption | refine Ext.alloc ?_ _ | refine Ext.drew ?_ | refine Ext.drewN ?_ _ | refine Ext.setCell ?_ (by simp) _ | refine Ext.trans ?_ (by assumption))) (by repeat (first | exact Ext.refl _ | assumption | refine Ext.alloc ?_ _ | refine Ext.drew ?_ | refine Ext.drewN ?_ _ | refine Ext.setCell ?_ (by simp) _ | refine Ext.trans ?_ (by assumption)))))))))))
    (first
      | (go_at_call 11; refine Calls.mono (laws_toNetwork s0 k0 n0 _ (H0.out.up (by repeat (first | exact Ext.refl _ | assumption | refine Ext.alloc ?_ _ | refine Ext.drew ?_ | refine Ext.drewN ?_ _ | refine Ext.setCell ?_ (by simp) _ | refine Ext.trans ?_ (by assumption)))) Hsm0.out) ?_; rintro e w11 ⟨sv11, kv11, rfl, hx11, ho11⟩)
      | (go_at_call 13; refine Calls.mono (laws_eqNetwork _ _ _ _ n0 _ (R6.out.up (by repeat (first | exact Ext.refl _ | assumption | refine Ext.alloc ?_ _ | refine Ext.drew ?_ | refine Ext.drewN ?_ _ | refine Ext.setCell ?_ (by simp) _ | refine Ext.trans ?_ (by assumption)))) ((show NetIn w11 sv11 kv11 n0 from ho11.net.netIn).up (by repeat (first | exact Ext.refl _ | assumption | refine Ext.alloc ?_ _ | refine Ext.drew ?_ | refine Ext.drewN ?_ _ | refine Ext.setCell ?_ (by simp) _ | refine Ext.trans ?_ (by assumption))))) ?_; rintro e w12 ⟨rfl, hx12⟩))
  have hE : Ext w10 w12 := (by repeat (first | exact Ext.refl _ | assumption | refine Ext.alloc ?_ _ | refine Ext.drew ?_ | refine Ext.drewN ?_ _ | refine Ext.setCell ?_ (by simp) _ | refine Ext.trans ?_ (by assumption)))
  clear ba00 ba01 ba0g
  have ba0 := Hba0.out.ext hE
  clear Hba0
  have ba00 := ba0.at0
  have ba01 := ba0.at1
  have ba0g := ba0.1
  have Hba0 := Lib.hid ba0
  clear ba0
  clear ba10 ba11 ba1g
  have ba1 := Hba1.out.ext hE
  clear Hba1
  have ba10 := ba1.at0
  have ba11 := ba1.at1
  have ba1g := ba1.1
  have Hba1 := Lib.hid ba1
  clear ba1
  clear bx00 bx01 bx0g
  have bx0 := Hbx0.out.ext hE
  clear Hbx0
  have bx00 := bx0.at0
  have bx01 := bx0.at1
  have bx0g := bx0.1
  have Hbx0 := Lib.hid bx0
  clear bx0
  clear bx10 bx11 bx1g
  have bx1 := Hbx1.out.ext hE
  clear Hbx1
  have bx10 := bx1.at0
  have bx11 := bx1.at1
  have bx1g := bx1.1
  have Hbx1 := Lib.hid bx1
  clear bx1
  replace H0 := Lib.hid (H0.out.up hE)
  replace H1 := Lib.hid (H1.out.up hE)
  replace R6 := Lib.hid (R6.out.up hE)
  replace O6 := Lib.hid (O6.out.ext hE)
  replace R8 := Lib.hid (R8.out.up hE)
  replace O8 := Lib.hid (O8.out.ext hE)
  replace hx : Ext w w12 := hx.trans hE
  clear hE hx11 ho11 hx12
  go_wp2_with fail
  go_region_held3 (fun w' => w'.cell? ⟨w.heap.size, 0, none⟩ = some (s0) ∧ w'.cell? ⟨w.heap.size, 1, none⟩ = some (k0) ∧ w'.cell? ⟨w.heap.size + 1, 0, none⟩ = some (s1) ∧ w'.cell? ⟨w.heap.size + 1, 1, none⟩ = some (k1) ∧ w'.cell? ⟨w6.heap.size, 0, none⟩ = some (.slice As6 n0.sets.length cs6) ∧ w'.cell? ⟨w6.heap.size, 1, none⟩ = some (.slice Ak6 n0.links.length ck6) ∧ w'.cell? ⟨w8.heap.size, 0, none⟩ = some (.slice As8 n1.sets.length cs8) ∧ w'.cell? ⟨w8.heap.size, 1, none⟩ = some (.slice Ak8 n1.links.length ck8) ∧ Ext w12 w')
    (exact Ext.and_cell ba0g ba00 (by repeat (first | exact Ext.refl _ | assumption | refine Ext.alloc ?_ _ | refine Ext.drew ?_ | refine Ext.drewN ?_ _ | refine Ext.setCell ?_ (by simp) _ | refine Ext.trans ?_ (by assumption))) (Ext.and_cell ba0g ba01 (by repeat (first | exact Ext.refl _ | assumption | refine Ext.alloc ?_ _ | refine Ext.drew ?_ | refine Ext.drewN ?_ _ | refine Ext.setCell ?_ (by simp) _ | refine Ext.trans ?_ (by assumption))) (Ext.and_cell ba1g ba10 (by repeat (first | exact Ext.refl _ | assumption | refine Ext.alloc ?_ _ | refine Ext.drew ?_ | refine Ext.drewN ?_ _ | refine Ext.setCell ?_ (by simp) _ | refine Ext.trans ?_ (by assumption))) (Ext.and_cell ba1g ba11 (by repeat (first | exact Ext.refl _ | assumption | refine Ext.alloc ?_ _ | refine Ext.drew ?_ | refine Ext.drewN ?_ _ | refine Ext.setCell ?_ (by simp) _ | refine Ext.trans ?_ (by assumption))) (Ext.and_cell bx0g bx00 (by repeat (first | exact Ext.refl _ | assumption | refine Ext.alloc ?_ _ | refine Ext.drew ?_ | refine Ext.drewN ?_ _ | refine Ext.setCell ?_ (by simp) _ | refine Ext.trans ?_ (by assumption))) (Ext.and_cell bx0g bx01 (by repeat (first | exact Ext.refl _ | assumption | refine Ext.alloc ?_ _ | refine Ext.drew ?_ | refine Ext.drewN ?_ _ | refine Ext.setCell ?_ (by simp) _ | refine Ext.trans ?_ (by assumption))) (Ext.and_cell bx1g bx10 (by repeat (first | exact Ext.refl _ | assumption | refine Ext.alloc ?_ _ | refine Ext.drew ?_ | refine Ext.drewN ?_ _ | refine Ext.setCell ?_ (by simp) _ | refine Ext.trans ?_ (by assumption))) (Ext.and_cell bx1g bx11 (by repeat (first | exact Ext.refl _ | assumption | refine Ext.alloc ?_ _ | refine Ext.drew ?_ | refine Ext.drewN ?_ _ | refine Ext.setCell ?_ (by simp) _ | refine Ext.trans ?_ (by assumption))) (by repeat (first | exact Ext.refl _ | assumption | refine Ext.alloc ?_ _ | refine Ext.drew ?_ | refine Ext.drewN ?_ _ | refine Ext.setCell ?_ (by simp) _ | refine Ext.trans ?_ (by assumption)))))))))))
    (first
      | (go_at_call 11; refine Calls.mono (laws_toNetwork s1 k1 n1 _ (H1.out.up (by repeat (first | exact Ext.refl _ | assumption | refine Ext.alloc ?_ _ | refine Ext.drew ?_ | refine Ext.drewN ?_ _ | refine Ext.setCell ?_ (by simp) _ | refine Ext.trans ?_ (by assumption)))) Hsm1.out) ?_; rintro e w13 ⟨sv13, kv13, rfl, hx13, ho13⟩)
      | (go_at_call 13; refine Calls.mono (laws_eqNetwork _ _ _ _ n1 _ (R8.out.up (by repeat (first | exact Ext.refl _ | assumption | refine Ext.alloc ?_ _ | refine Ext.drew ?_ | refine Ext.drewN ?_ _ | refine Ext.setCell ?_ (by simp) _ | refine Ext.trans ?_ (by assumption)))) ((show NetIn w13 sv13 kv13 n1 from ho13.net.netIn).up (by repeat (first | exact Ext.refl _ | assumption | refine Ext.alloc ?_ _ | refine Ext.drew ?_ | refine Ext.drewN ?_ _ | refine Ext.setCell ?_ (by simp) _ | refine Ext.trans ?_ (by assumption))))) ?_; rintro e w14 ⟨rfl, hx14⟩))
  have hE : Ext w12 w14 := (by repeat (first | exact Ext.refl _ | assumption | refine Ext.alloc ?_ _ | refine Ext.drew ?_ | refine Ext.drewN ?_ _ | refine Ext.setCell ?_ (by simp) _ | refine Ext.trans ?_ (by assumption)))
  clear ba00 ba01 ba0g
  have ba0 := Hba0.out.ext hE
  clear Hba0
  have ba00 := ba0.at0
  have ba01 := ba0.at1
  have ba0g := ba0.1
  have Hba0 := Lib.hid ba0
  clear ba0
  clear ba10 ba11 ba1g
  have ba1 := Hba1.out.ext hE
  clear Hba1
  have ba10 := ba1.at0
  have ba11 := ba1.at1
  have ba1g := ba1.1
  have Hba1 := Lib.hid ba1
  clear ba1
  clear bx00 bx01 bx0g
  have bx0 := Hbx0.out.ext hE
  clear Hbx0
  have bx00 := bx0.at0
  have bx01 := bx0.at1
  have bx0g := bx0.1
  have Hbx0 := Lib.hid bx0
  clear bx0
  clear bx10 bx11 bx1g
  have bx1 := Hbx1.out.ext hE
  clear Hbx1
  have bx10 := bx1.at0
  have bx11 := bx1.at1
  have bx1g := bx1.1
  have Hbx1 := Lib.hid bx1
  clear bx1
  replace H0 := Lib.hid (H0.out.up hE)
  replace H1 := Lib.hid (H1.out.up hE)
  replace R6 := Lib.hid (R6.out.up hE)
  replace O6 := Lib.hid (O6.out.ext hE)
  replace R8 := Lib.hid (R8.out.up hE)
  replace O8 := Lib.hid (O8.out.ext hE)
  replace hx : Ext w w14 := hx.trans hE
  clear hE hx13 ho13 hx14
  go_wp2_with fail
  go_ret
  exact ⟨rfl, hx⟩
end Go.Proofs.Ytbpajobfhpmpdaa
