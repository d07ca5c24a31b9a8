/- The law FnExactAddLink, walked out of the contracts of the program's AddLink and the reference's. -/
import Derived.Test.YtkpoelgaomgjlaaV
import Derived.Test.YtkpoelgaomgjlaaCu
import Derived.Deep.RegionHeld3
import Derived.Deep.DeepCutAuto
namespace Go.Proofs.Ytkpoelgaomgjlaa
set_option linter.unusedVariables false
set_option linter.unusedSimpArgs false
open Go.RowKit
attribute [local go_sem] cell_onto

set_option maxRecDepth 100000 in
set_option maxHeartbeats 4000000 in
theorem law_AddLink (s0 k0 : Value) (n0 : Net) (a1 b1 c1 d1 : Int) (w : World) (h0 : NetIn w s0 k0 n0) :
    Calls Try.prog 5 #[.agg #[s0, k0], .agg #[.int .i64 a1, .int .i64 b1, .int .i64 c1, .int .i64 d1]] w (RetX (.bool true) w) := by
  have H0 := Lib.hid (show NetAt w 0 w.heap.size s0 k0 n0 from h0)
  clear h0
  have hx := Ext.refl w
  go_enter Try.func5, Try.ntmps5
  go_wp2_with fail
  refine Calls.mono (laws_szNetwork s0 k0 n0 1048576 _ (by omega) (by omega) (H0.out.up (by omega) (by repeat (first | exact Ext.refl _ | assumption | refine Ext.alloc ?_ _ | refine Ext.drew ?_ | refine Ext.drewN ?_ _ | refine Ext.setCell ?_ (by first | (simp; done) | (simp; omega) | omega) _ | refine Ext.trans ?_ (by assumption))))) ?_
  rintro e w1 ⟨r1, rfl, hx1, hra1, hrb1, hrc1⟩
  have hE : Ext w w1 := (by repeat (first | exact Ext.refl _ | assumption | refine Ext.alloc ?_ _ | refine Ext.drew ?_ | refine Ext.drewN ?_ _ | refine Ext.setCell ?_ (by first | (simp; done) | (simp; omega) | omega) _ | refine Ext.trans ?_ (by assumption)))
  have ba0 := (show Boxed w1 (w.heap.size) [s0, k0] from by have hb' := ((Boxed.new w [s0, k0] 25).ext ((Ext.refl _).alloc _)).ext hx1; exact hb'); have ba00 := ba0.at0; have ba01 := ba0.at1; have ba0g := ba0.1; have Hba0 := Lib.hid ba0; clear ba0
  have ba1 := (show Boxed w1 (w.heap.size + 1) [.int .i64 a1, .int .i64 b1, .int .i64 c1, .int .i64 d1] from by have hb' := ((Boxed.new (w.alloc _) [.int .i64 a1, .int .i64 b1, .int .i64 c1, .int .i64 d1] 45)).ext hx1; rwa [World.size_alloc] at hb'); have ba10 := ba1.at0; have ba11 := ba1.at1; have ba12 := ba1.at2; have ba13 := ba1.at3; have ba1g := ba1.1; have Hba1 := Lib.hid ba1; clear ba1
  have tmp := Lib.hid (show NetAt w1 0 w.heap.size s0 k0 n0 from (H0.out.ext hE (by omega)))
  clear H0
  have H0 := tmp
  clear tmp
  have hz2 : w.heap.size ≤ w1.heap.size := hE.size
  replace hx : Ext w w1 := hx.trans hE
  clear hE
  have hq0 : w.heap.size < w1.heap.size := ba0g
  have hq1 : w.heap.size + 1 < w1.heap.size := ba1g
  have Hr0 := Lib.hid hrc1
  clear hrc1 hx1
  by_cases hneg1 : r1 < 0
  case pos =>
    go_wp2_with fail
    go_ret
    exact ⟨rfl, (by repeat (first | exact Ext.refl _ | assumption | refine Ext.alloc ?_ _ | refine Ext.drew ?_ | refine Ext.drewN ?_ _ | refine Ext.setCell ?_ (by first | (simp; done) | (simp; omega) | omega) _ | refine Ext.trans ?_ (by assumption)))⟩
  have Hsm0 := Lib.hid (Hr0.out (by omega))
  go_wp2_with fail
  go_cut [6, 7] (fun sa sb wx => BoxNet w1 (addV n0 ⟨a1, b1, c1, d1⟩) (addE n0 ⟨a1, b1, c1, d1⟩) sa sb wx)
  case first =>
    go_region_held3 (fun w' => w'.cell? ⟨w.heap.size, 0, none⟩ = some (s0) ∧ w'.cell? ⟨w.heap.size, 1, none⟩ = some (k0) ∧ w'.cell? ⟨w.heap.size + 1, 0, none⟩ = some (.int .i64 a1) ∧ w'.cell? ⟨w.heap.size + 1, 1, none⟩ = some (.int .i64 b1) ∧ w'.cell? ⟨w.heap.size + 1, 2, none⟩ = some (.int .i64 c1) ∧ w'.cell? ⟨w.heap.size + 1, 3, none⟩ = some (.int .i64 d1) ∧ Ext w1 w')
      (exact Ext.and_cell ba0g ba00 (by repeat (first | exact Ext.refl _ | assumption | refine Ext.alloc ?_ _ | refine Ext.drew ?_ | refine Ext.drewN ?_ _ | refine Ext.setCell ?_ (by first | (simp; done) | (simp; omega) | omega) _ | refine Ext.trans ?_ (by assumption))) (Ext.and_cell ba0g ba01 (by repeat (first | exact Ext.refl _ | assumption | refine Ext.alloc ?_ _ | refine Ext.drew ?_ | refine Ext.drewN ?_ _ | refine Ext.setCell ?_ (by first | (simp; done) | (simp; omega) | omega) _ | refine Ext.trans ?_ (by assumption))) (Ext.and_cell ba1g ba10 (by repeat (first | exact Ext.refl _ | assumption | refine Ext.alloc ?_ _ | refine Ext.drew ?_ | refine Ext.drewN ?_ _ | refine Ext.setCell ?_ (by first | (simp; done) | (simp; omega) | omega) _ | refine Ext.trans ?_ (by assumption))) (Ext.and_cell ba1g ba11 (by repeat (first | exact Ext.refl _ | assumption | refine Ext.alloc ?_ _ | refine Ext.drew ?_ | refine Ext.drewN ?_ _ | refine Ext.setCell ?_ (by first | (simp; done) | (simp; omega) | omega) _ | refine Ext.trans ?_ (by assumption))) (Ext.and_cell ba1g ba12 (by repeat (first | exact Ext.refl _ | assumption | refine Ext.alloc ?_ _ | refine Ext.drew ?_ | refine Ext.drewN ?_ _ | refine Ext.setCell ?_ (by first | (simp; done) | (simp; omega) | omega) _ | refine Ext.trans ?_ (by assumption))) (Ext.and_cell ba1g ba13 (by repeat (first | exact Ext.refl _ | assumption | refine Ext.alloc ?_ _ | refine Ext.drew ?_ | refine Ext.drewN ?_ _ | refine Ext.setCell ?_ (by first | (simp; done) | (simp; omega) | omega) _ | refine Ext.trans ?_ (by assumption))) (by repeat (first | exact Ext.refl _ | assumption | refine Ext.alloc ?_ _ | refine Ext.drew ?_ | refine Ext.drewN ?_ _ | refine Ext.setCell ?_ (by first | (simp; done) | (simp; omega) | omega) _ | refine Ext.trans ?_ (by assumption)))))))))
      (first
        | (go_at_call_of 16 (Value.agg #[s0, k0]); refine Calls.mono (laws_toNetwork s0 k0 n0 _ (H0.out.up (by omega) (by repeat (first | exact Ext.refl _ | assumption | refine Ext.alloc ?_ _ | refine Ext.drew ?_ | refine Ext.drewN ?_ _ | refine Ext.setCell ?_ (by first | (simp; done) | (simp; omega) | omega) _ | refine Ext.trans ?_ (by assumption)))) Hsm0.out) ?_; rintro e w3 ⟨sv3, kv3, rfl, hx3, ho3⟩; (try (have bq := (Boxed.new w1 [.slice none 0 0, .slice none 0 0] 32).ext (Ext.trans (Ext.drew (Ext.refl (w1.alloc (.cells #[.slice none 0 0, .slice none 0 0] 32)))) hx3); have hbz := bq.1)); have hs3 := Ext.size (show Ext w1 w3 from (by repeat (first | exact Ext.refl _ | assumption | refine Ext.alloc ?_ _ | refine Ext.drew ?_ | refine Ext.drewN ?_ _ | refine Ext.setCell ?_ (by first | (simp; done) | (simp; omega) | omega) _ | refine Ext.trans ?_ (by assumption)))))
        | (go_at_call 27; refine Calls.mono (laws_toLink a1 b1 c1 d1 _) ?_; rintro e wl ⟨rfl, hxl⟩; (try (have bq2 := Boxed.ext bq hxl)); (try (have bq2 := (Boxed.new w3 [.slice none 0 0, .slice none 0 0] 32).ext (show Ext (w3.alloc (.cells #[.slice none 0 0, .slice none 0 0] 32)) _ from hxl))); (try (clear bq)); (try (have bq := bq2; clear bq2; have hbz := bq.1)); have hsl := Ext.size (show Ext w1 wl from (by repeat (first | exact Ext.refl _ | assumption | refine Ext.alloc ?_ _ | refine Ext.drew ?_ | refine Ext.drewN ?_ _ | refine Ext.setCell ?_ (by first | (simp; done) | (simp; omega) | omega) _ | refine Ext.trans ?_ (by assumption)))))
        | (go_at_call 26; refine Calls.mono (spec_AddLink sv3 kv3 n0 a1 b1 c1 d1 _ ((show NetIn w3 sv3 kv3 n0 from ho3.net.netIn).up (by repeat (first | exact Ext.refl _ | assumption | refine Ext.alloc ?_ _ | refine Ext.drew ?_ | refine Ext.drewN ?_ _ | refine Ext.setCell ?_ (by first | (simp; done) | (simp; omega) | omega) _ | refine Ext.trans ?_ (by assumption))))) ?_; rintro e w4 ⟨gs4, gk4, rfl, hx4, hgo4⟩; obtain ⟨As4, cs4, rfl, _, _⟩ := hgo4.at_.1.len; obtain ⟨Ak4, ck4, rfl, _, _⟩ := hgo4.at_.2.len; (try (have bq2 := Boxed.ext bq hx4)); (try (have bq2 := (Boxed.new wl [.slice none 0 0, .slice none 0 0] 32).ext (show Ext (wl.alloc (.cells #[.slice none 0 0, .slice none 0 0] 32)) _ from hx4))); (try (clear bq)); (try (have bq := bq2; clear bq2; have hbzF := bq.1)); (try (have bq0 := bq.at0; have bq1 := bq.at1; have bqf0 := bq.fz 0 (by simp); have bqf1 := bq.fz 1 (by simp)))))
    all_goals
      have hE : Ext w1 w4 := (by repeat (first | exact Ext.refl _ | assumption | refine Ext.alloc ?_ _ | refine Ext.drew ?_ | refine Ext.drewN ?_ _ | refine Ext.setCell ?_ (by first | (simp; done) | (simp; omega) | omega) _ | refine Ext.trans ?_ (by assumption)))
      go_wp2_with fail
      go_meet
      first
        | (refine BoxNet.after _ hE ?_ hgo4; (first | omega | (rw [World.size_alloc]; omega)))
        | (refine BoxNet.before hE ?_ ?_ ?_ bq hgo4 <;> (first | omega | (rw [World.size_alloc]; omega)))
  obtain ⟨w4, rfl⟩ : ∃ x : World, x = wc := ⟨_, rfl⟩
  obtain ⟨bw, low, hiw, sw', kw', rfl, rfl, hE, hb1w, hb2w, hl1w, hh1w, hd1w, hBw, hgo4⟩ := hcut
  obtain ⟨As4, cs4, rfl, _, _⟩ := hgo4.at_.1.len; obtain ⟨Ak4, ck4, rfl, _, _⟩ := hgo4.at_.2.len
  have HBw := Lib.hid hBw
  have Hgo4 := Lib.hid hgo4
  clear hBw hgo4
  clear ba00 ba01 ba0g
  have ba0 := Hba0.out.ext hE
  clear Hba0
  have ba00 := ba0.at0
  have ba01 := ba0.at1
  have ba0g := ba0.1
  have Hba0 := Lib.hid ba0
  clear ba0
  clear ba10 ba11 ba12 ba13 ba1g
  have ba1 := Hba1.out.ext hE
  clear Hba1
  have ba10 := ba1.at0
  have ba11 := ba1.at1
  have ba12 := ba1.at2
  have ba13 := ba1.at3
  have ba1g := ba1.1
  have Hba1 := Lib.hid ba1
  clear ba1
  have tmp := Lib.hid (show NetAt w4 0 w.heap.size s0 k0 n0 from (H0.out.ext hE (by omega)))
  clear H0
  have H0 := tmp
  clear tmp
  have hz5 : w1.heap.size ≤ w4.heap.size := hE.size
  replace hx : Ext w w4 := hx.trans hE
  clear hE
  have bw' := HBw.out
  have bxw := bw'
  clear HBw bw'
  have bxw0 := bxw.at0
  have bxw1 := bxw.at1
  have bxwg := bxw.1
  have Hbxw := Lib.hid bxw
  clear bxw
  have W := Lib.hid (show OwnNet w4 (low) (hiw) (.agg #[.slice As4 (addV n0 ⟨a1, b1, c1, d1⟩).sets.length cs4, .slice Ak4 (addV n0 ⟨a1, b1, c1, d1⟩).links.length ck4]) (addV n0 ⟨a1, b1, c1, d1⟩) from Hgo4.out)
  clear Hgo4
  go_wp2_with fail
  refine Calls.mono (laws_toNetwork s0 k0 n0 _ (H0.out.up (by omega) (by repeat (first | exact Ext.refl _ | assumption | refine Ext.alloc ?_ _ | refine Ext.drew ?_ | refine Ext.drewN ?_ _ | refine Ext.setCell ?_ (by first | (simp; done) | (simp; omega) | omega) _ | refine Ext.trans ?_ (by assumption)))) Hsm0.out) ?_
  rintro e w6 ⟨sv6, kv6, rfl, hx6, ho6⟩
  have hE : Ext w4 w6 := (by repeat (first | exact Ext.refl _ | assumption | refine Ext.alloc ?_ _ | refine Ext.drew ?_ | refine Ext.drewN ?_ _ | refine Ext.setCell ?_ (by first | (simp; done) | (simp; omega) | omega) _ | refine Ext.trans ?_ (by assumption)))
  clear ba00 ba01 ba0g
  have ba0 := Hba0.out.ext hE
  clear Hba0
  have ba00 := ba0.at0
  have ba01 := ba0.at1
  have ba0g := ba0.1
  have Hba0 := Lib.hid ba0
  clear ba0
  clear ba10 ba11 ba12 ba13 ba1g
  have ba1 := Hba1.out.ext hE
  clear Hba1
  have ba10 := ba1.at0
  have ba11 := ba1.at1
  have ba12 := ba1.at2
  have ba13 := ba1.at3
  have ba1g := ba1.1
  have Hba1 := Lib.hid ba1
  clear ba1
  clear bxw0 bxw1 bxwg
  have bxw := Hbxw.out.ext hE
  clear Hbxw
  have bxw0 := bxw.at0
  have bxw1 := bxw.at1
  have bxwg := bxw.1
  have Hbxw := Lib.hid bxw
  clear bxw
  have tmp := Lib.hid (show NetAt w6 0 w.heap.size s0 k0 n0 from (H0.out.ext hE (by omega)))
  clear H0
  have H0 := tmp
  clear tmp
  have tmp := Lib.hid (show OwnNet w6 (low) (hiw) (.agg #[.slice As4 (addV n0 ⟨a1, b1, c1, d1⟩).sets.length cs4, .slice Ak4 (addV n0 ⟨a1, b1, c1, d1⟩).links.length ck4]) (addV n0 ⟨a1, b1, c1, d1⟩) from (W.out.ext' hE (by omega)))
  clear W
  have W := tmp
  clear tmp
  have hz7 : w4.heap.size ≤ w6.heap.size := hE.size
  replace hx : Ext w w6 := hx.trans hE
  clear hE
  obtain ⟨As6, cs6, rfl, _, _⟩ := ho6.at_.1.len
  obtain ⟨Ak6, ck6, rfl, _, _⟩ := ho6.at_.2.len
  have X0 := Lib.hid (show OwnNet w6 (w4.heap.size) w6.heap.size (.agg #[.slice As6 (n0).sets.length cs6, .slice Ak6 (n0).links.length ck6]) n0 from ho6)
  clear ho6
  clear hx6
  go_wp2_with fail
  have hE : Ext w6 (w6.alloc (.cells #[.slice As6 (n0).sets.length cs6, .slice Ak6 (n0).links.length ck6] 32)) := (by repeat (first | exact Ext.refl _ | assumption | refine Ext.alloc ?_ _ | refine Ext.drew ?_ | refine Ext.drewN ?_ _ | refine Ext.setCell ?_ (by first | (simp; done) | (simp; omega) | omega) _ | refine Ext.trans ?_ (by assumption)))
  clear ba00 ba01 ba0g
  have ba0 := Hba0.out.ext hE
  clear Hba0
  have ba00 := ba0.at0
  have ba01 := ba0.at1
  have ba0g := ba0.1
  have Hba0 := Lib.hid ba0
  clear ba0
  clear ba10 ba11 ba12 ba13 ba1g
  have ba1 := Hba1.out.ext hE
  clear Hba1
  have ba10 := ba1.at0
  have ba11 := ba1.at1
  have ba12 := ba1.at2
  have ba13 := ba1.at3
  have ba1g := ba1.1
  have Hba1 := Lib.hid ba1
  clear ba1
  clear bxw0 bxw1 bxwg
  have bxw := Hbxw.out.ext hE
  clear Hbxw
  have bxw0 := bxw.at0
  have bxw1 := bxw.at1
  have bxwg := bxw.1
  have Hbxw := Lib.hid bxw
  clear bxw
  have tmp := Lib.hid (show NetAt (w6.alloc (.cells #[.slice As6 (n0).sets.length cs6, .slice Ak6 (n0).links.length ck6] 32)) 0 w.heap.size s0 k0 n0 from (H0.out.ext hE (by omega)))
  clear H0
  have H0 := tmp
  clear tmp
  have tmp := Lib.hid (show OwnNet (w6.alloc (.cells #[.slice As6 (n0).sets.length cs6, .slice Ak6 (n0).links.length ck6] 32)) (low) (hiw) (.agg #[.slice As4 (addV n0 ⟨a1, b1, c1, d1⟩).sets.length cs4, .slice Ak4 (addV n0 ⟨a1, b1, c1, d1⟩).links.length ck4]) (addV n0 ⟨a1, b1, c1, d1⟩) from (W.out.ext' hE (by omega)))
  clear W
  have W := tmp
  clear tmp
  have tmp := Lib.hid (show OwnNet (w6.alloc (.cells #[.slice As6 (n0).sets.length cs6, .slice Ak6 (n0).links.length ck6] 32)) (w4.heap.size) w6.heap.size (.agg #[.slice As6 (n0).sets.length cs6, .slice Ak6 (n0).links.length ck6]) n0 from (X0.out.ext' hE (by omega)))
  clear X0
  have X0 := tmp
  clear tmp
  have hz8 : w6.heap.size ≤ (w6.alloc (.cells #[.slice As6 (n0).sets.length cs6, .slice Ak6 (n0).links.length ck6] 32)).heap.size := hE.size
  replace hx : Ext w (w6.alloc (.cells #[.slice As6 (n0).sets.length cs6, .slice Ak6 (n0).links.length ck6] 32)) := hx.trans hE
  clear hE
  have Hbx0 := Lib.hid (Boxed.new w6 [.slice As6 (n0).sets.length cs6, .slice Ak6 (n0).links.length ck6] 32)
  have bx0 := Hbx0.out
  clear Hbx0
  have bx00 := bx0.at0
  have bx01 := bx0.at1
  have bx0g := bx0.1
  have Hbx0 := Lib.hid bx0
  clear bx0
  have hzA9 : (w6.alloc (.cells #[.slice As6 (n0).sets.length cs6, .slice Ak6 (n0).links.length ck6] 32)).heap.size ≤ w6.heap.size + 1 := by rw [World.size_alloc]; exact Nat.le_refl _
  have hzB9 : w6.heap.size + 1 ≤ (w6.alloc (.cells #[.slice As6 (n0).sets.length cs6, .slice Ak6 (n0).links.length ck6] 32)).heap.size := by rw [World.size_alloc]; exact Nat.le_refl _
  generalize (w6.alloc (.cells #[.slice As6 (n0).sets.length cs6, .slice Ak6 (n0).links.length ck6] 32)) = wa9 at *
  go_cut [9, 10] (fun sa sb wx => BoxNet wa9 (addV n0 ⟨a1, b1, c1, d1⟩) (addE n0 ⟨a1, b1, c1, d1⟩) sa sb wx)
  case first =>
    go_region_held3 (fun w' => w'.cell? ⟨w.heap.size, 0, none⟩ = some (s0) ∧ w'.cell? ⟨w.heap.size, 1, none⟩ = some (k0) ∧ w'.cell? ⟨w.heap.size + 1, 0, none⟩ = some (.int .i64 a1) ∧ w'.cell? ⟨w.heap.size + 1, 1, none⟩ = some (.int .i64 b1) ∧ w'.cell? ⟨w.heap.size + 1, 2, none⟩ = some (.int .i64 c1) ∧ w'.cell? ⟨w.heap.size + 1, 3, none⟩ = some (.int .i64 d1) ∧ w'.cell? ⟨bw, 0, none⟩ = some (.slice As4 (addV n0 ⟨a1, b1, c1, d1⟩).sets.length cs4) ∧ w'.cell? ⟨bw, 1, none⟩ = some (.slice Ak4 (addV n0 ⟨a1, b1, c1, d1⟩).links.length ck4) ∧ w'.cell? ⟨w6.heap.size, 0, none⟩ = some (.slice As6 (n0).sets.length cs6) ∧ w'.cell? ⟨w6.heap.size, 1, none⟩ = some (.slice Ak6 (n0).links.length ck6) ∧ Ext wa9 w')
      (exact Ext.and_cell ba0g ba00 (by repeat (first | exact Ext.refl _ | assumption | refine Ext.alloc ?_ _ | refine Ext.drew ?_ | refine Ext.drewN ?_ _ | refine Ext.setCell ?_ (by first | (simp; done) | (simp; omega) | omega) _ | refine Ext.trans ?_ (by assumption))) (Ext.and_cell ba0g ba01 (by repeat (first | exact Ext.refl _ | assumption | refine Ext.alloc ?_ _ | refine Ext.drew ?_ | refine Ext.drewN ?_ _ | refine Ext.setCell ?_ (by first | (simp; done) | (simp; omega) | omega) _ | refine Ext.trans ?_ (by assumption))) (Ext.and_cell ba1g ba10 (by repeat (first | exact Ext.refl _ | assumption | refine Ext.alloc ?_ _ | refine Ext.drew ?_ | refine Ext.drewN ?_ _ | refine Ext.setCell ?_ (by first | (simp; done) | (simp; omega) | omega) _ | refine Ext.trans ?_ (by assumption))) (Ext.and_cell ba1g ba11 (by repeat (first | exact Ext.refl _ | assumption | refine Ext.alloc ?_ _ | refine Ext.drew ?_ | refine Ext.drewN ?_ _ | refine Ext.setCell ?_ (by first | (simp; done) | (simp; omega) | omega) _ | refine Ext.trans ?_ (by assumption))) (Ext.and_cell ba1g ba12 (by repeat (first | exact Ext.refl _ | assumption | refine Ext.alloc ?_ _ | refine Ext.drew ?_ | refine Ext.drewN ?_ _ | refine Ext.setCell ?_ (by first | (simp; done) | (simp; omega) | omega) _ | refine Ext.trans ?_ (by assumption))) (Ext.and_cell ba1g ba13 (by repeat (first | exact Ext.refl _ | assumption | refine Ext.alloc ?_ _ | refine Ext.drew ?_ | refine Ext.drewN ?_ _ | refine Ext.setCell ?_ (by first | (simp; done) | (simp; omega) | omega) _ | refine Ext.trans ?_ (by assumption))) (Ext.and_cell bxwg bxw0 (by repeat (first | exact Ext.refl _ | assumption | refine Ext.alloc ?_ _ | refine Ext.drew ?_ | refine Ext.drewN ?_ _ | refine Ext.setCell ?_ (by first | (simp; done) | (simp; omega) | omega) _ | refine Ext.trans ?_ (by assumption))) (Ext.and_cell bxwg bxw1 (by repeat (first | exact Ext.refl _ | assumption | refine Ext.alloc ?_ _ | refine Ext.drew ?_ | refine Ext.drewN ?_ _ | refine Ext.setCell ?_ (by first | (simp; done) | (simp; omega) | omega) _ | refine Ext.trans ?_ (by assumption))) (Ext.and_cell bx0g bx00 (by repeat (first | exact Ext.refl _ | assumption | refine Ext.alloc ?_ _ | refine Ext.drew ?_ | refine Ext.drewN ?_ _ | refine Ext.setCell ?_ (by first | (simp; done) | (simp; omega) | omega) _ | refine Ext.trans ?_ (by assumption))) (Ext.and_cell bx0g bx01 (by repeat (first | exact Ext.refl _ | assumption | refine Ext.alloc ?_ _ | refine Ext.drew ?_ | refine Ext.drewN ?_ _ | refine Ext.setCell ?_ (by first | (simp; done) | (simp; omega) | omega) _ | refine Ext.trans ?_ (by assumption))) (by repeat (first | exact Ext.refl _ | assumption | refine Ext.alloc ?_ _ | refine Ext.drew ?_ | refine Ext.drewN ?_ _ | refine Ext.setCell ?_ (by first | (simp; done) | (simp; omega) | omega) _ | refine Ext.trans ?_ (by assumption)))))))))))))
      (first
        | (go_at_call 27; refine Calls.mono (laws_toLink a1 b1 c1 d1 _) ?_; rintro e wl ⟨rfl, hxl⟩; (try (have bq := (Boxed.new wa9 [.slice none 0 0, .slice none 0 0] 32).ext (Ext.trans (Ext.drew (Ext.refl (wa9.alloc (.cells #[.slice none 0 0, .slice none 0 0] 32)))) hxl); have hbz := bq.1)); have hsl := Ext.size (show Ext wa9 wl from (by repeat (first | exact Ext.refl _ | assumption | refine Ext.alloc ?_ _ | refine Ext.drew ?_ | refine Ext.drewN ?_ _ | refine Ext.setCell ?_ (by first | (simp; done) | (simp; omega) | omega) _ | refine Ext.trans ?_ (by assumption)))))
        | (go_at_call 28; refine Calls.mono (impl_AddLink (.slice As6 (n0).sets.length cs6) (.slice Ak6 (n0).links.length ck6) n0 a1 b1 c1 d1 _ (NetAt.up X0.out.at_ (by omega) (by repeat (first | exact Ext.refl _ | assumption | refine Ext.alloc ?_ _ | refine Ext.drew ?_ | refine Ext.drewN ?_ _ | refine Ext.setCell ?_ (by first | (simp; done) | (simp; omega) | omega) _ | refine Ext.trans ?_ (by assumption))))) ?_; rintro e w10 ⟨gs10, gk10, rfl, hx10, hgo10⟩; obtain ⟨As10, cs10, rfl, _, _⟩ := hgo10.at_.1.len; obtain ⟨Ak10, ck10, rfl, _, _⟩ := hgo10.at_.2.len; (try (have bq2 := Boxed.ext bq hx10)); (try (have bq2 := (Boxed.new wl [.slice none 0 0, .slice none 0 0] 32).ext (show Ext (wl.alloc (.cells #[.slice none 0 0, .slice none 0 0] 32)) _ from hx10))); (try (clear bq)); (try (have bq := bq2; clear bq2; have hbzF := bq.1)); (try (have bq0 := bq.at0; have bq1 := bq.at1; have bqf0 := bq.fz 0 (by simp); have bqf1 := bq.fz 1 (by simp)))))
    all_goals
      have hE : Ext wa9 w10 := (by repeat (first | exact Ext.refl _ | assumption | refine Ext.alloc ?_ _ | refine Ext.drew ?_ | refine Ext.drewN ?_ _ | refine Ext.setCell ?_ (by first | (simp; done) | (simp; omega) | omega) _ | refine Ext.trans ?_ (by assumption)))
      go_wp2_with fail
      go_meet
      first
        | (refine BoxNet.after _ hE ?_ hgo10; (first | omega | (rw [World.size_alloc]; omega)))
        | (refine BoxNet.before hE ?_ ?_ ?_ bq hgo10 <;> (first | omega | (rw [World.size_alloc]; omega)))
  obtain ⟨w10, rfl⟩ : ∃ x : World, x = wc := ⟨_, rfl⟩
  obtain ⟨bg, log, hig, sg', kg', rfl, rfl, hE, hb1g, hb2g, hl1g, hh1g, hd1g, hBg, hgo10⟩ := hcut
  obtain ⟨As10, cs10, rfl, _, _⟩ := hgo10.at_.1.len; obtain ⟨Ak10, ck10, rfl, _, _⟩ := hgo10.at_.2.len
  have HBg := Lib.hid hBg
  have Hgo10 := Lib.hid hgo10
  clear hBg hgo10
  clear ba00 ba01 ba0g
  have ba0 := Hba0.out.ext hE
  clear Hba0
  have ba00 := ba0.at0
  have ba01 := ba0.at1
  have ba0g := ba0.1
  have Hba0 := Lib.hid ba0
  clear ba0
  clear ba10 ba11 ba12 ba13 ba1g
  have ba1 := Hba1.out.ext hE
  clear Hba1
  have ba10 := ba1.at0
  have ba11 := ba1.at1
  have ba12 := ba1.at2
  have ba13 := ba1.at3
  have ba1g := ba1.1
  have Hba1 := Lib.hid ba1
  clear ba1
  clear bxw0 bxw1 bxwg
  have bxw := Hbxw.out.ext hE
  clear Hbxw
  have bxw0 := bxw.at0
  have bxw1 := bxw.at1
  have bxwg := bxw.1
  have Hbxw := Lib.hid bxw
  clear bxw
  clear bx00 bx01 bx0g
  have bx0 := Hbx0.out.ext hE
  clear Hbx0
  have bx00 := bx0.at0
  have bx01 := bx0.at1
  have bx0g := bx0.1
  have Hbx0 := Lib.hid bx0
  clear bx0
  have tmp := Lib.hid (show NetAt w10 0 w.heap.size s0 k0 n0 from (H0.out.ext hE (by omega)))
  clear H0
  have H0 := tmp
  clear tmp
  have tmp := Lib.hid (show OwnNet w10 (low) (hiw) (.agg #[.slice As4 (addV n0 ⟨a1, b1, c1, d1⟩).sets.length cs4, .slice Ak4 (addV n0 ⟨a1, b1, c1, d1⟩).links.length ck4]) (addV n0 ⟨a1, b1, c1, d1⟩) from (W.out.ext' hE (by omega)))
  clear W
  have W := tmp
  clear tmp
  have tmp := Lib.hid (show OwnNet w10 (w4.heap.size) w6.heap.size (.agg #[.slice As6 (n0).sets.length cs6, .slice Ak6 (n0).links.length ck6]) n0 from (X0.out.ext' hE (by omega)))
  clear X0
  have X0 := tmp
  clear tmp
  have hz11 : wa9.heap.size ≤ w10.heap.size := hE.size
  replace hx : Ext w w10 := hx.trans hE
  clear hE
  have bg' := HBg.out
  have bxg := bg'
  clear HBg bg'
  have bxg0 := bxg.at0
  have bxg1 := bxg.at1
  have bxgg := bxg.1
  have Hbxg := Lib.hid bxg
  clear bxg
  have G := Lib.hid (show OwnNet w10 (log) (hig) (.agg #[.slice As10 (addV n0 ⟨a1, b1, c1, d1⟩).sets.length cs10, .slice Ak10 (addV n0 ⟨a1, b1, c1, d1⟩).links.length ck10]) (addV n0 ⟨a1, b1, c1, d1⟩) from Hgo10.out)
  clear Hgo10
  go_wp2_with fail
  refine Calls.mono (laws_eqNetwork _ _ _ _ (addV n0 ⟨a1, b1, c1, d1⟩) _ (NetAt.up G.out.at_ (by omega) (by repeat (first | exact Ext.refl _ | assumption | refine Ext.alloc ?_ _ | refine Ext.drew ?_ | refine Ext.drewN ?_ _ | refine Ext.setCell ?_ (by first | (simp; done) | (simp; omega) | omega) _ | refine Ext.trans ?_ (by assumption)))) (NetAt.up W.out.at_ (by omega) (by repeat (first | exact Ext.refl _ | assumption | refine Ext.alloc ?_ _ | refine Ext.drew ?_ | refine Ext.drewN ?_ _ | refine Ext.setCell ?_ (by first | (simp; done) | (simp; omega) | omega) _ | refine Ext.trans ?_ (by assumption))))) ?_
  rintro e w12 ⟨rfl, hx12⟩
  have hE : Ext w10 w12 := (by repeat (first | exact Ext.refl _ | assumption | refine Ext.alloc ?_ _ | refine Ext.drew ?_ | refine Ext.drewN ?_ _ | refine Ext.setCell ?_ (by first | (simp; done) | (simp; omega) | omega) _ | refine Ext.trans ?_ (by assumption)))
  clear ba00 ba01 ba0g
  have ba0 := Hba0.out.ext hE
  clear Hba0
  have ba00 := ba0.at0
  have ba01 := ba0.at1
  have ba0g := ba0.1
  have Hba0 := Lib.hid ba0
  clear ba0
  clear ba10 ba11 ba12 ba13 ba1g
  have ba1 := Hba1.out.ext hE
  clear Hba1
  have ba10 := ba1.at0
  have ba11 := ba1.at1
  have ba12 := ba1.at2
  have ba13 := ba1.at3
  have ba1g := ba1.1
  have Hba1 := Lib.hid ba1
  clear ba1
  clear bxw0 bxw1 bxwg
  have bxw := Hbxw.out.ext hE
  clear Hbxw
  have bxw0 := bxw.at0
  have bxw1 := bxw.at1
  have bxwg := bxw.1
  have Hbxw := Lib.hid bxw
  clear bxw
  clear bx00 bx01 bx0g
  have bx0 := Hbx0.out.ext hE
  clear Hbx0
  have bx00 := bx0.at0
  have bx01 := bx0.at1
  have bx0g := bx0.1
  have Hbx0 := Lib.hid bx0
  clear bx0
  clear bxg0 bxg1 bxgg
  have bxg := Hbxg.out.ext hE
  clear Hbxg
  have bxg0 := bxg.at0
  have bxg1 := bxg.at1
  have bxgg := bxg.1
  have Hbxg := Lib.hid bxg
  clear bxg
  have tmp := Lib.hid (show NetAt w12 0 w.heap.size s0 k0 n0 from (H0.out.ext hE (by omega)))
  clear H0
  have H0 := tmp
  clear tmp
  have tmp := Lib.hid (show OwnNet w12 (low) (hiw) (.agg #[.slice As4 (addV n0 ⟨a1, b1, c1, d1⟩).sets.length cs4, .slice Ak4 (addV n0 ⟨a1, b1, c1, d1⟩).links.length ck4]) (addV n0 ⟨a1, b1, c1, d1⟩) from (W.out.ext' hE (by omega)))
  clear W
  have W := tmp
  clear tmp
  have tmp := Lib.hid (show OwnNet w12 (w4.heap.size) w6.heap.size (.agg #[.slice As6 (n0).sets.length cs6, .slice Ak6 (n0).links.length ck6]) n0 from (X0.out.ext' hE (by omega)))
  clear X0
  have X0 := tmp
  clear tmp
  have tmp := Lib.hid (show OwnNet w12 (log) (hig) (.agg #[.slice As10 (addV n0 ⟨a1, b1, c1, d1⟩).sets.length cs10, .slice Ak10 (addV n0 ⟨a1, b1, c1, d1⟩).links.length ck10]) (addV n0 ⟨a1, b1, c1, d1⟩) from (G.out.ext' hE (by omega)))
  clear G
  have G := tmp
  clear tmp
  have hz13 : w10.heap.size ≤ w12.heap.size := hE.size
  replace hx : Ext w w12 := hx.trans hE
  clear hE
  clear hx12
  go_wp2_with fail
  go_region_held3 (fun w' => w'.cell? ⟨w.heap.size, 0, none⟩ = some (s0) ∧ w'.cell? ⟨w.heap.size, 1, none⟩ = some (k0) ∧ w'.cell? ⟨w.heap.size + 1, 0, none⟩ = some (.int .i64 a1) ∧ w'.cell? ⟨w.heap.size + 1, 1, none⟩ = some (.int .i64 b1) ∧ w'.cell? ⟨w.heap.size + 1, 2, none⟩ = some (.int .i64 c1) ∧ w'.cell? ⟨w.heap.size + 1, 3, none⟩ = some (.int .i64 d1) ∧ w'.cell? ⟨bw, 0, none⟩ = some (.slice As4 (addV n0 ⟨a1, b1, c1, d1⟩).sets.length cs4) ∧ w'.cell? ⟨bw, 1, none⟩ = some (.slice Ak4 (addV n0 ⟨a1, b1, c1, d1⟩).links.length ck4) ∧ w'.cell? ⟨w6.heap.size, 0, none⟩ = some (.slice As6 (n0).sets.length cs6) ∧ w'.cell? ⟨w6.heap.size, 1, none⟩ = some (.slice Ak6 (n0).links.length ck6) ∧ w'.cell? ⟨bg, 0, none⟩ = some (.slice As10 (addV n0 ⟨a1, b1, c1, d1⟩).sets.length cs10) ∧ w'.cell? ⟨bg, 1, none⟩ = some (.slice Ak10 (addV n0 ⟨a1, b1, c1, d1⟩).links.length ck10) ∧ Ext w12 w')
    (exact Ext.and_cell ba0g ba00 (by repeat (first | exact Ext.refl _ | assumption | refine Ext.alloc ?_ _ | refine Ext.drew ?_ | refine Ext.drewN ?_ _ | refine Ext.setCell ?_ (by first | (simp; done) | (simp; omega) | omega) _ | refine Ext.trans ?_ (by assumption))) (Ext.and_cell ba0g ba01 (by repeat (first | exact Ext.refl _ | assumption | refine Ext.alloc ?_ _ | refine Ext.drew ?_ | refine Ext.drewN ?_ _ | refine Ext.setCell ?_ (by first | (simp; done) | (simp; omega) | omega) _ | refine Ext.trans ?_ (by assumption))) (Ext.and_cell ba1g ba10 (by repeat (first | exact Ext.refl _ | assumption | refine Ext.alloc ?_ _ | refine Ext.drew ?_ | refine Ext.drewN ?_ _ | refine Ext.setCell ?_ (by first | (simp; done) | (simp; omega) | omega) _ | refine Ext.trans ?_ (by assumption))) (Ext.and_cell ba1g ba11 (by repeat (first | exact Ext.refl _ | assumption | refine Ext.alloc ?_ _ | refine Ext.drew ?_ | refine Ext.drewN ?_ _ | refine Ext.setCell ?_ (by first | (simp; done) | (simp; omega) | omega) _ | refine Ext.trans ?_ (by assumption))) (Ext.and_cell ba1g ba12 (by repeat (first | exact Ext.refl _ | assumption | refine Ext.alloc ?_ _ | refine Ext.drew ?_ | refine Ext.drewN ?_ _ | refine Ext.setCell ?_ (by first | (simp; done) | (simp; omega) | omega) _ | refine Ext.trans ?_ (by assumption))) (Ext.and_cell ba1g ba13 (by repeat (first | exact Ext.refl _ | assumption | refine Ext.alloc ?_ _ | refine Ext.drew ?_ | refine Ext.drewN ?_ _ | refine Ext.setCell ?_ (by first | (simp; done) | (simp; omega) | omega) _ | refine Ext.trans ?_ (by assumption))) (Ext.and_cell bxwg bxw0 (by repeat (first | exact Ext.refl _ | assumption | refine Ext.alloc ?_ _ | refine Ext.drew ?_ | refine Ext.drewN ?_ _ | refine Ext.setCell ?_ (by first | (simp; done) | (simp; omega) | omega) _ | refine Ext.trans ?_ (by assumption))) (Ext.and_cell bxwg bxw1 (by repeat (first | exact Ext.refl _ | assumption | refine Ext.alloc ?_ _ | refine Ext.drew ?_ | refine Ext.drewN ?_ _ | refine Ext.setCell ?_ (by first | (simp; done) | (simp; omega) | omega) _ | refine Ext.trans ?_ (by assumption))) (Ext.and_cell bx0g bx00 (by repeat (first | exact Ext.refl _ | assumption | refine Ext.alloc ?_ _ | refine Ext.drew ?_ | refine Ext.drewN ?_ _ | refine Ext.setCell ?_ (by first | (simp; done) | (simp; omega) | omega) _ | refine Ext.trans ?_ (by assumption))) (Ext.and_cell bx0g bx01 (by repeat (first | exact Ext.refl _ | assumption | refine Ext.alloc ?_ _ | refine Ext.drew ?_ | refine Ext.drewN ?_ _ | refine Ext.setCell ?_ (by first | (simp; done) | (simp; omega) | omega) _ | refine Ext.trans ?_ (by assumption))) (Ext.and_cell bxgg bxg0 (by repeat (first | exact Ext.refl _ | assumption | refine Ext.alloc ?_ _ | refine Ext.drew ?_ | refine Ext.drewN ?_ _ | refine Ext.setCell ?_ (by first | (simp; done) | (simp; omega) | omega) _ | refine Ext.trans ?_ (by assumption))) (Ext.and_cell bxgg bxg1 (by repeat (first | exact Ext.refl _ | assumption | refine Ext.alloc ?_ _ | refine Ext.drew ?_ | refine Ext.drewN ?_ _ | refine Ext.setCell ?_ (by first | (simp; done) | (simp; omega) | omega) _ | refine Ext.trans ?_ (by assumption))) (by repeat (first | exact Ext.refl _ | assumption | refine Ext.alloc ?_ _ | refine Ext.drew ?_ | refine Ext.drewN ?_ _ | refine Ext.setCell ?_ (by first | (simp; done) | (simp; omega) | omega) _ | refine Ext.trans ?_ (by assumption)))))))))))))))
    (first
      | (go_at_call 16; refine Calls.mono (laws_toNetwork s0 k0 n0 _ (H0.out.up (by omega) (by repeat (first | exact Ext.refl _ | assumption | refine Ext.alloc ?_ _ | refine Ext.drew ?_ | refine Ext.drewN ?_ _ | refine Ext.setCell ?_ (by first | (simp; done) | (simp; omega) | omega) _ | refine Ext.trans ?_ (by assumption)))) Hsm0.out) ?_; rintro e w14 ⟨sv14, kv14, rfl, hx14, ho14⟩)
      | (go_at_call 18; refine Calls.mono (laws_eqNetwork _ _ _ _ n0 _ (NetAt.up X0.out.at_ (by omega) (by repeat (first | exact Ext.refl _ | assumption | refine Ext.alloc ?_ _ | refine Ext.drew ?_ | refine Ext.drewN ?_ _ | refine Ext.setCell ?_ (by first | (simp; done) | (simp; omega) | omega) _ | refine Ext.trans ?_ (by assumption)))) ((show NetIn w14 sv14 kv14 n0 from ho14.net.netIn).up (by repeat (first | exact Ext.refl _ | assumption | refine Ext.alloc ?_ _ | refine Ext.drew ?_ | refine Ext.drewN ?_ _ | refine Ext.setCell ?_ (by first | (simp; done) | (simp; omega) | omega) _ | refine Ext.trans ?_ (by assumption))))) ?_; rintro e w15 ⟨rfl, hx15⟩))
  have hE : Ext w12 w15 := (by repeat (first | exact Ext.refl _ | assumption | refine Ext.alloc ?_ _ | refine Ext.drew ?_ | refine Ext.drewN ?_ _ | refine Ext.setCell ?_ (by first | (simp; done) | (simp; omega) | omega) _ | refine Ext.trans ?_ (by assumption)))
  clear ba00 ba01 ba0g
  have ba0 := Hba0.out.ext hE
  clear Hba0
  have ba00 := ba0.at0
  have ba01 := ba0.at1
  have ba0g := ba0.1
  have Hba0 := Lib.hid ba0
  clear ba0
  clear ba10 ba11 ba12 ba13 ba1g
  have ba1 := Hba1.out.ext hE
  clear Hba1
  have ba10 := ba1.at0
  have ba11 := ba1.at1
  have ba12 := ba1.at2
  have ba13 := ba1.at3
  have ba1g := ba1.1
  have Hba1 := Lib.hid ba1
  clear ba1
  clear bxw0 bxw1 bxwg
  have bxw := Hbxw.out.ext hE
  clear Hbxw
  have bxw0 := bxw.at0
  have bxw1 := bxw.at1
  have bxwg := bxw.1
  have Hbxw := Lib.hid bxw
  clear bxw
  clear bx00 bx01 bx0g
  have bx0 := Hbx0.out.ext hE
  clear Hbx0
  have bx00 := bx0.at0
  have bx01 := bx0.at1
  have bx0g := bx0.1
  have Hbx0 := Lib.hid bx0
  clear bx0
  clear bxg0 bxg1 bxgg
  have bxg := Hbxg.out.ext hE
  clear Hbxg
  have bxg0 := bxg.at0
  have bxg1 := bxg.at1
  have bxgg := bxg.1
  have Hbxg := Lib.hid bxg
  clear bxg
  have tmp := Lib.hid (show NetAt w15 0 w.heap.size s0 k0 n0 from (H0.out.ext hE (by omega)))
  clear H0
  have H0 := tmp
  clear tmp
  have tmp := Lib.hid (show OwnNet w15 (low) (hiw) (.agg #[.slice As4 (addV n0 ⟨a1, b1, c1, d1⟩).sets.length cs4, .slice Ak4 (addV n0 ⟨a1, b1, c1, d1⟩).links.length ck4]) (addV n0 ⟨a1, b1, c1, d1⟩) from (W.out.ext' hE (by omega)))
  clear W
  have W := tmp
  clear tmp
  have tmp := Lib.hid (show OwnNet w15 (w4.heap.size) w6.heap.size (.agg #[.slice As6 (n0).sets.length cs6, .slice Ak6 (n0).links.length ck6]) n0 from (X0.out.ext' hE (by omega)))
  clear X0
  have X0 := tmp
  clear tmp
  have tmp := Lib.hid (show OwnNet w15 (log) (hig) (.agg #[.slice As10 (addV n0 ⟨a1, b1, c1, d1⟩).sets.length cs10, .slice Ak10 (addV n0 ⟨a1, b1, c1, d1⟩).links.length ck10]) (addV n0 ⟨a1, b1, c1, d1⟩) from (G.out.ext' hE (by omega)))
  clear G
  have G := tmp
  clear tmp
  have hz16 : w12.heap.size ≤ w15.heap.size := hE.size
  replace hx : Ext w w15 := hx.trans hE
  clear hE
  clear hx14 ho14 hx15
  go_wp2_with fail
  have hnc17 := netCells_le n0 Hsm0.out
  refine Calls.mono (laws_markNetwork _ _ _ _ n0 (1) _ X0.out (by omega) Hsm0.out (by omega) (by omega)) ?_
  rintro e w17 ⟨rfl, hO, hm17⟩
  clear hm17 X0
  clear ba00 ba01 ba0g
  have ba0 := Hba0.out.off hO (fun hh => by have h3 := hh.1; have h4 := hh.2; omega)
  clear Hba0
  have ba00 := ba0.at0
  have ba01 := ba0.at1
  have ba0g := ba0.1
  have Hba0 := Lib.hid ba0
  clear ba0
  clear ba10 ba11 ba12 ba13 ba1g
  have ba1 := Hba1.out.off hO (fun hh => by have h3 := hh.1; have h4 := hh.2; omega)
  clear Hba1
  have ba10 := ba1.at0
  have ba11 := ba1.at1
  have ba12 := ba1.at2
  have ba13 := ba1.at3
  have ba1g := ba1.1
  have Hba1 := Lib.hid ba1
  clear ba1
  clear bxw0 bxw1 bxwg
  have bxw := Hbxw.out.off hO (fun hh => by have h3 := hh.1; have h4 := hh.2; omega)
  clear Hbxw
  have bxw0 := bxw.at0
  have bxw1 := bxw.at1
  have bxwg := bxw.1
  have Hbxw := Lib.hid bxw
  clear bxw
  clear bx00 bx01 bx0g
  have bx0 := Hbx0.out.off hO (fun hh => by have h3 := hh.1; have h4 := hh.2; omega)
  clear Hbx0
  have bx00 := bx0.at0
  have bx01 := bx0.at1
  have bx0g := bx0.1
  have Hbx0 := Lib.hid bx0
  clear bx0
  clear bxg0 bxg1 bxgg
  have bxg := Hbxg.out.off hO (fun hh => by have h3 := hh.1; have h4 := hh.2; omega)
  clear Hbxg
  have bxg0 := bxg.at0
  have bxg1 := bxg.at1
  have bxgg := bxg.1
  have Hbxg := Lib.hid bxg
  clear bxg
  have tmp := Lib.hid (show NetAt w17 0 w.heap.size s0 k0 n0 from (H0.out.off hO (fun x h1 h2 hh => by have h3 := hh.1; have h4 := hh.2; omega) (by omega)))
  clear H0
  have H0 := tmp
  clear tmp
  have tmp := Lib.hid (show OwnNet w17 (low) (hiw) (.agg #[.slice As4 (addV n0 ⟨a1, b1, c1, d1⟩).sets.length cs4, .slice Ak4 (addV n0 ⟨a1, b1, c1, d1⟩).links.length ck4]) (addV n0 ⟨a1, b1, c1, d1⟩) from (W.out.off' hO (fun x h1 h2 hh => by have h3 := hh.1; have h4 := hh.2; omega) (by omega)))
  clear W
  have W := tmp
  clear tmp
  have tmp := Lib.hid (show OwnNet w17 (log) (hig) (.agg #[.slice As10 (addV n0 ⟨a1, b1, c1, d1⟩).sets.length cs10, .slice Ak10 (addV n0 ⟨a1, b1, c1, d1⟩).links.length ck10]) (addV n0 ⟨a1, b1, c1, d1⟩) from (G.out.off' hO (fun x h1 h2 hh => by have h3 := hh.1; have h4 := hh.2; omega) (by omega)))
  clear G
  have G := tmp
  clear tmp
  have hz18 : w15.heap.size ≤ w17.heap.size := hO.size
  replace hx : Ext w w17 := hx.off hO (fun x h1 hh => by have h3 := hh.1; omega)
  clear hO
  obtain ⟨m17, hmm17⟩ : ∃ m : Int, (1 : Int) + netCells n0 = m := ⟨_, rfl⟩
  rw [hmm17]
  have hmn : decide (m17 < 0) = false := decide_eq_false (by omega)
  go_wp2_with fail
  refine Calls.mono (laws_eqNetwork _ _ _ _ (addV n0 ⟨a1, b1, c1, d1⟩) _ (NetAt.up G.out.at_ (by omega) (by repeat (first | exact Ext.refl _ | assumption | refine Ext.alloc ?_ _ | refine Ext.drew ?_ | refine Ext.drewN ?_ _ | refine Ext.setCell ?_ (by first | (simp; done) | (simp; omega) | omega) _ | refine Ext.trans ?_ (by assumption)))) (NetAt.up W.out.at_ (by omega) (by repeat (first | exact Ext.refl _ | assumption | refine Ext.alloc ?_ _ | refine Ext.drew ?_ | refine Ext.drewN ?_ _ | refine Ext.setCell ?_ (by first | (simp; done) | (simp; omega) | omega) _ | refine Ext.trans ?_ (by assumption))))) ?_
  rintro e w19 ⟨rfl, hx19⟩
  have hE : Ext w17 w19 := (by repeat (first | exact Ext.refl _ | assumption | refine Ext.alloc ?_ _ | refine Ext.drew ?_ | refine Ext.drewN ?_ _ | refine Ext.setCell ?_ (by first | (simp; done) | (simp; omega) | omega) _ | refine Ext.trans ?_ (by assumption)))
  clear ba00 ba01 ba0g
  have ba0 := Hba0.out.ext hE
  clear Hba0
  have ba00 := ba0.at0
  have ba01 := ba0.at1
  have ba0g := ba0.1
  have Hba0 := Lib.hid ba0
  clear ba0
  clear ba10 ba11 ba12 ba13 ba1g
  have ba1 := Hba1.out.ext hE
  clear Hba1
  have ba10 := ba1.at0
  have ba11 := ba1.at1
  have ba12 := ba1.at2
  have ba13 := ba1.at3
  have ba1g := ba1.1
  have Hba1 := Lib.hid ba1
  clear ba1
  clear bxw0 bxw1 bxwg
  have bxw := Hbxw.out.ext hE
  clear Hbxw
  have bxw0 := bxw.at0
  have bxw1 := bxw.at1
  have bxwg := bxw.1
  have Hbxw := Lib.hid bxw
  clear bxw
  clear bx00 bx01 bx0g
  have bx0 := Hbx0.out.ext hE
  clear Hbx0
  have bx00 := bx0.at0
  have bx01 := bx0.at1
  have bx0g := bx0.1
  have Hbx0 := Lib.hid bx0
  clear bx0
  clear bxg0 bxg1 bxgg
  have bxg := Hbxg.out.ext hE
  clear Hbxg
  have bxg0 := bxg.at0
  have bxg1 := bxg.at1
  have bxgg := bxg.1
  have Hbxg := Lib.hid bxg
  clear bxg
  have tmp := Lib.hid (show NetAt w19 0 w.heap.size s0 k0 n0 from (H0.out.ext hE (by omega)))
  clear H0
  have H0 := tmp
  clear tmp
  have tmp := Lib.hid (show OwnNet w19 (low) (hiw) (.agg #[.slice As4 (addV n0 ⟨a1, b1, c1, d1⟩).sets.length cs4, .slice Ak4 (addV n0 ⟨a1, b1, c1, d1⟩).links.length ck4]) (addV n0 ⟨a1, b1, c1, d1⟩) from (W.out.ext' hE (by omega)))
  clear W
  have W := tmp
  clear tmp
  have tmp := Lib.hid (show OwnNet w19 (log) (hig) (.agg #[.slice As10 (addV n0 ⟨a1, b1, c1, d1⟩).sets.length cs10, .slice Ak10 (addV n0 ⟨a1, b1, c1, d1⟩).links.length ck10]) (addV n0 ⟨a1, b1, c1, d1⟩) from (G.out.ext' hE (by omega)))
  clear G
  have G := tmp
  clear tmp
  have hz20 : w17.heap.size ≤ w19.heap.size := hE.size
  replace hx : Ext w w19 := hx.trans hE
  clear hE
  clear hx19
  go_wp2_with fail
  have HsR := Lib.hid (addV_small n0 ⟨a1, b1, c1, d1⟩)
  have hnc21 := netCells_le _ HsR.out
  refine Calls.mono (laws_markNetwork _ _ _ _ (addV n0 ⟨a1, b1, c1, d1⟩) 1 _ G.out (by omega) HsR.out (by omega) (by omega)) ?_
  rintro e w21 ⟨rfl, hO, hm21⟩
  clear G
  clear ba00 ba01 ba0g
  have ba0 := Hba0.out.off hO (fun hh => by have h3 := hh.1; have h4 := hh.2; omega)
  clear Hba0
  have ba00 := ba0.at0
  have ba01 := ba0.at1
  have ba0g := ba0.1
  have Hba0 := Lib.hid ba0
  clear ba0
  clear ba10 ba11 ba12 ba13 ba1g
  have ba1 := Hba1.out.off hO (fun hh => by have h3 := hh.1; have h4 := hh.2; omega)
  clear Hba1
  have ba10 := ba1.at0
  have ba11 := ba1.at1
  have ba12 := ba1.at2
  have ba13 := ba1.at3
  have ba1g := ba1.1
  have Hba1 := Lib.hid ba1
  clear ba1
  clear bxw0 bxw1 bxwg
  have bxw := Hbxw.out.off hO (fun hh => by have h3 := hh.1; have h4 := hh.2; omega)
  clear Hbxw
  have bxw0 := bxw.at0
  have bxw1 := bxw.at1
  have bxwg := bxw.1
  have Hbxw := Lib.hid bxw
  clear bxw
  clear bx00 bx01 bx0g
  have bx0 := Hbx0.out.off hO (fun hh => by have h3 := hh.1; have h4 := hh.2; omega)
  clear Hbx0
  have bx00 := bx0.at0
  have bx01 := bx0.at1
  have bx0g := bx0.1
  have Hbx0 := Lib.hid bx0
  clear bx0
  clear bxg0 bxg1 bxgg
  have bxg := Hbxg.out.off hO (fun hh => by have h3 := hh.1; have h4 := hh.2; omega)
  clear Hbxg
  have bxg0 := bxg.at0
  have bxg1 := bxg.at1
  have bxgg := bxg.1
  have Hbxg := Lib.hid bxg
  clear bxg
  have tmp := Lib.hid (show NetAt w21 0 w.heap.size s0 k0 n0 from (H0.out.off hO (fun x h1 h2 hh => by have h3 := hh.1; have h4 := hh.2; omega) (by omega)))
  clear H0
  have H0 := tmp
  clear tmp
  have tmp := Lib.hid (show OwnNet w21 (low) (hiw) (.agg #[.slice As4 (addV n0 ⟨a1, b1, c1, d1⟩).sets.length cs4, .slice Ak4 (addV n0 ⟨a1, b1, c1, d1⟩).links.length ck4]) (addV n0 ⟨a1, b1, c1, d1⟩) from (W.out.off' hO (fun x h1 h2 hh => by have h3 := hh.1; have h4 := hh.2; omega) (by omega)))
  clear W
  have W := tmp
  clear tmp
  have hz22 : w19.heap.size ≤ w21.heap.size := hO.size
  replace hx : Ext w w21 := hx.off hO (fun x h1 hh => by have h3 := hh.1; omega)
  clear hO
  have G := Lib.hid (show MarkedNet w21 (log) (hig) (.agg #[.slice As10 (addV n0 ⟨a1, b1, c1, d1⟩).sets.length cs10, .slice Ak10 (addV n0 ⟨a1, b1, c1, d1⟩).links.length ck10]) (addV n0 ⟨a1, b1, c1, d1⟩) 1 from hm21)
  clear hm21
  obtain ⟨m, hmm⟩ : ∃ m : Int, (1 : Int) + netCells (addV n0 ⟨a1, b1, c1, d1⟩) = m := ⟨_, rfl⟩
  rw [hmm]
  have hmz : decide (m < 0) = false := decide_eq_false (by omega)
  have hme : (m != m) = false := bne_self_eq_false m
  go_wp2_with fail
  refine Calls.mono (laws_heldNetwork _ _ _ _ (addV n0 ⟨a1, b1, c1, d1⟩) 1 _ G.out (by omega) HsR.out (by omega) (by omega)) ?_
  rintro e w23 ⟨rfl, hx23⟩
  have hE : Ext w21 w23 := (by repeat (first | exact Ext.refl _ | assumption | refine Ext.alloc ?_ _ | refine Ext.drew ?_ | refine Ext.drewN ?_ _ | refine Ext.setCell ?_ (by first | (simp; done) | (simp; omega) | omega) _ | refine Ext.trans ?_ (by assumption)))
  clear ba00 ba01 ba0g
  have ba0 := Hba0.out.ext hE
  clear Hba0
  have ba00 := ba0.at0
  have ba01 := ba0.at1
  have ba0g := ba0.1
  have Hba0 := Lib.hid ba0
  clear ba0
  clear ba10 ba11 ba12 ba13 ba1g
  have ba1 := Hba1.out.ext hE
  clear Hba1
  have ba10 := ba1.at0
  have ba11 := ba1.at1
  have ba12 := ba1.at2
  have ba13 := ba1.at3
  have ba1g := ba1.1
  have Hba1 := Lib.hid ba1
  clear ba1
  clear bxw0 bxw1 bxwg
  have bxw := Hbxw.out.ext hE
  clear Hbxw
  have bxw0 := bxw.at0
  have bxw1 := bxw.at1
  have bxwg := bxw.1
  have Hbxw := Lib.hid bxw
  clear bxw
  clear bx00 bx01 bx0g
  have bx0 := Hbx0.out.ext hE
  clear Hbx0
  have bx00 := bx0.at0
  have bx01 := bx0.at1
  have bx0g := bx0.1
  have Hbx0 := Lib.hid bx0
  clear bx0
  clear bxg0 bxg1 bxgg
  have bxg := Hbxg.out.ext hE
  clear Hbxg
  have bxg0 := bxg.at0
  have bxg1 := bxg.at1
  have bxgg := bxg.1
  have Hbxg := Lib.hid bxg
  clear bxg
  have tmp := Lib.hid (show NetAt w23 0 w.heap.size s0 k0 n0 from (H0.out.ext hE (by omega)))
  clear H0
  have H0 := tmp
  clear tmp
  have tmp := Lib.hid (show OwnNet w23 (low) (hiw) (.agg #[.slice As4 (addV n0 ⟨a1, b1, c1, d1⟩).sets.length cs4, .slice Ak4 (addV n0 ⟨a1, b1, c1, d1⟩).links.length ck4]) (addV n0 ⟨a1, b1, c1, d1⟩) from (W.out.ext' hE (by omega)))
  clear W
  have W := tmp
  clear tmp
  have tmp := Lib.hid (show MarkedNet w23 (log) (hig) (.agg #[.slice As10 (addV n0 ⟨a1, b1, c1, d1⟩).sets.length cs10, .slice Ak10 (addV n0 ⟨a1, b1, c1, d1⟩).links.length ck10]) (addV n0 ⟨a1, b1, c1, d1⟩) 1 from (G.out.ext hE (by omega)))
  clear G
  have G := tmp
  clear tmp
  have hz24 : w21.heap.size ≤ w23.heap.size := hE.size
  replace hx : Ext w w23 := hx.trans hE
  clear hE
  clear hx23
  rw [hmm]
  go_wp2_with fail
  go_cut [14, 15] (fun sa sb wx => BoxNet w23 (addV n0 ⟨a1, b1, c1, d1⟩) (addE n0 ⟨a1, b1, c1, d1⟩) sa sb wx)
  case first =>
    go_region_held3 (fun w' => w'.cell? ⟨w.heap.size, 0, none⟩ = some (s0) ∧ w'.cell? ⟨w.heap.size, 1, none⟩ = some (k0) ∧ w'.cell? ⟨w.heap.size + 1, 0, none⟩ = some (.int .i64 a1) ∧ w'.cell? ⟨w.heap.size + 1, 1, none⟩ = some (.int .i64 b1) ∧ w'.cell? ⟨w.heap.size + 1, 2, none⟩ = some (.int .i64 c1) ∧ w'.cell? ⟨w.heap.size + 1, 3, none⟩ = some (.int .i64 d1) ∧ w'.cell? ⟨bw, 0, none⟩ = some (.slice As4 (addV n0 ⟨a1, b1, c1, d1⟩).sets.length cs4) ∧ w'.cell? ⟨bw, 1, none⟩ = some (.slice Ak4 (addV n0 ⟨a1, b1, c1, d1⟩).links.length ck4) ∧ w'.cell? ⟨w6.heap.size, 0, none⟩ = some (.slice As6 (n0).sets.length cs6) ∧ w'.cell? ⟨w6.heap.size, 1, none⟩ = some (.slice Ak6 (n0).links.length ck6) ∧ w'.cell? ⟨bg, 0, none⟩ = some (.slice As10 (addV n0 ⟨a1, b1, c1, d1⟩).sets.length cs10) ∧ w'.cell? ⟨bg, 1, none⟩ = some (.slice Ak10 (addV n0 ⟨a1, b1, c1, d1⟩).links.length ck10) ∧ Ext w23 w')
      (exact Ext.and_cell ba0g ba00 (by repeat (first | exact Ext.refl _ | assumption | refine Ext.alloc ?_ _ | refine Ext.drew ?_ | refine Ext.drewN ?_ _ | refine Ext.setCell ?_ (by first | (simp; done) | (simp; omega) | omega) _ | refine Ext.trans ?_ (by assumption))) (Ext.and_cell ba0g ba01 (by repeat (first | exact Ext.refl _ | assumption | refine Ext.alloc ?_ _ | refine Ext.drew ?_ | refine Ext.drewN ?_ _ | refine Ext.setCell ?_ (by first | (simp; done) | (simp; omega) | omega) _ | refine Ext.trans ?_ (by assumption))) (Ext.and_cell ba1g ba10 (by repeat (first | exact Ext.refl _ | assumption | refine Ext.alloc ?_ _ | refine Ext.drew ?_ | refine Ext.drewN ?_ _ | refine Ext.setCell ?_ (by first | (simp; done) | (simp; omega) | omega) _ | refine Ext.trans ?_ (by assumption))) (Ext.and_cell ba1g ba11 (by repeat (first | exact Ext.refl _ | assumption | refine Ext.alloc ?_ _ | refine Ext.drew ?_ | refine Ext.drewN ?_ _ | refine Ext.setCell ?_ (by first | (simp; done) | (simp; omega) | omega) _ | refine Ext.trans ?_ (by assumption))) (Ext.and_cell ba1g ba12 (by repeat (first | exact Ext.refl _ | assumption | refine Ext.alloc ?_ _ | refine Ext.drew ?_ | refine Ext.drewN ?_ _ | refine Ext.setCell ?_ (by first | (simp; done) | (simp; omega) | omega) _ | refine Ext.trans ?_ (by assumption))) (Ext.and_cell ba1g ba13 (by repeat (first | exact Ext.refl _ | assumption | refine Ext.alloc ?_ _ | refine Ext.drew ?_ | refine Ext.drewN ?_ _ | refine Ext.setCell ?_ (by first | (simp; done) | (simp; omega) | omega) _ | refine Ext.trans ?_ (by assumption))) (Ext.and_cell bxwg bxw0 (by repeat (first | exact Ext.refl _ | assumption | refine Ext.alloc ?_ _ | refine Ext.drew ?_ | refine Ext.drewN ?_ _ | refine Ext.setCell ?_ (by first | (simp; done) | (simp; omega) | omega) _ | refine Ext.trans ?_ (by assumption))) (Ext.and_cell bxwg bxw1 (by repeat (first | exact Ext.refl _ | assumption | refine Ext.alloc ?_ _ | refine Ext.drew ?_ | refine Ext.drewN ?_ _ | refine Ext.setCell ?_ (by first | (simp; done) | (simp; omega) | omega) _ | refine Ext.trans ?_ (by assumption))) (Ext.and_cell bx0g bx00 (by repeat (first | exact Ext.refl _ | assumption | refine Ext.alloc ?_ _ | refine Ext.drew ?_ | refine Ext.drewN ?_ _ | refine Ext.setCell ?_ (by first | (simp; done) | (simp; omega) | omega) _ | refine Ext.trans ?_ (by assumption))) (Ext.and_cell bx0g bx01 (by repeat (first | exact Ext.refl _ | assumption | refine Ext.alloc ?_ _ | refine Ext.drew ?_ | refine Ext.drewN ?_ _ | refine Ext.setCell ?_ (by first | (simp; done) | (simp; omega) | omega) _ | refine Ext.trans ?_ (by assumption))) (Ext.and_cell bxgg bxg0 (by repeat (first | exact Ext.refl _ | assumption | refine Ext.alloc ?_ _ | refine Ext.drew ?_ | refine Ext.drewN ?_ _ | refine Ext.setCell ?_ (by first | (simp; done) | (simp; omega) | omega) _ | refine Ext.trans ?_ (by assumption))) (Ext.and_cell bxgg bxg1 (by repeat (first | exact Ext.refl _ | assumption | refine Ext.alloc ?_ _ | refine Ext.drew ?_ | refine Ext.drewN ?_ _ | refine Ext.setCell ?_ (by first | (simp; done) | (simp; omega) | omega) _ | refine Ext.trans ?_ (by assumption))) (by repeat (first | exact Ext.refl _ | assumption | refine Ext.alloc ?_ _ | refine Ext.drew ?_ | refine Ext.drewN ?_ _ | refine Ext.setCell ?_ (by first | (simp; done) | (simp; omega) | omega) _ | refine Ext.trans ?_ (by assumption)))))))))))))))
      (first
        | (go_at_call_of 16 (Value.agg #[s0, k0]); refine Calls.mono (laws_toNetwork s0 k0 n0 _ (H0.out.up (by omega) (by repeat (first | exact Ext.refl _ | assumption | refine Ext.alloc ?_ _ | refine Ext.drew ?_ | refine Ext.drewN ?_ _ | refine Ext.setCell ?_ (by first | (simp; done) | (simp; omega) | omega) _ | refine Ext.trans ?_ (by assumption)))) Hsm0.out) ?_; rintro e w25 ⟨sv25, kv25, rfl, hx25, ho25⟩; (try (have bq := (Boxed.new w23 [.slice none 0 0, .slice none 0 0] 32).ext (Ext.trans (Ext.drew (Ext.refl (w23.alloc (.cells #[.slice none 0 0, .slice none 0 0] 32)))) hx25); have hbz := bq.1)); have hs25 := Ext.size (show Ext w23 w25 from (by repeat (first | exact Ext.refl _ | assumption | refine Ext.alloc ?_ _ | refine Ext.drew ?_ | refine Ext.drewN ?_ _ | refine Ext.setCell ?_ (by first | (simp; done) | (simp; omega) | omega) _ | refine Ext.trans ?_ (by assumption)))))
        | (go_at_call 27; refine Calls.mono (laws_toLink a1 b1 c1 d1 _) ?_; rintro e wl ⟨rfl, hxl⟩; (try (have bq2 := Boxed.ext bq hxl)); (try (have bq2 := (Boxed.new w25 [.slice none 0 0, .slice none 0 0] 32).ext (show Ext (w25.alloc (.cells #[.slice none 0 0, .slice none 0 0] 32)) _ from hxl))); (try (clear bq)); (try (have bq := bq2; clear bq2; have hbz := bq.1)); have hsl := Ext.size (show Ext w23 wl from (by repeat (first | exact Ext.refl _ | assumption | refine Ext.alloc ?_ _ | refine Ext.drew ?_ | refine Ext.drewN ?_ _ | refine Ext.setCell ?_ (by first | (simp; done) | (simp; omega) | omega) _ | refine Ext.trans ?_ (by assumption)))))
        | (go_at_call 28; refine Calls.mono (impl_AddLink sv25 kv25 n0 a1 b1 c1 d1 _ ((show NetIn w25 sv25 kv25 n0 from ho25.net.netIn).up (by repeat (first | exact Ext.refl _ | assumption | refine Ext.alloc ?_ _ | refine Ext.drew ?_ | refine Ext.drewN ?_ _ | refine Ext.setCell ?_ (by first | (simp; done) | (simp; omega) | omega) _ | refine Ext.trans ?_ (by assumption))))) ?_; rintro e w26 ⟨gs26, gk26, rfl, hx26, hgo26⟩; obtain ⟨As26, cs26, rfl, _, _⟩ := hgo26.at_.1.len; obtain ⟨Ak26, ck26, rfl, _, _⟩ := hgo26.at_.2.len; (try (have bq2 := Boxed.ext bq hx26)); (try (have bq2 := (Boxed.new wl [.slice none 0 0, .slice none 0 0] 32).ext (show Ext (wl.alloc (.cells #[.slice none 0 0, .slice none 0 0] 32)) _ from hx26))); (try (clear bq)); (try (have bq := bq2; clear bq2; have hbzF := bq.1)); (try (have bq0 := bq.at0; have bq1 := bq.at1; have bqf0 := bq.fz 0 (by simp); have bqf1 := bq.fz 1 (by simp)))))
    all_goals
      have hE : Ext w23 w26 := (by repeat (first | exact Ext.refl _ | assumption | refine Ext.alloc ?_ _ | refine Ext.drew ?_ | refine Ext.drewN ?_ _ | refine Ext.setCell ?_ (by first | (simp; done) | (simp; omega) | omega) _ | refine Ext.trans ?_ (by assumption)))
      go_wp2_with fail
      go_meet
      first
        | (refine BoxNet.after _ hE ?_ hgo26; (first | omega | (rw [World.size_alloc]; omega)))
        | (refine BoxNet.before hE ?_ ?_ ?_ bq hgo26 <;> (first | omega | (rw [World.size_alloc]; omega)))
  obtain ⟨w26, rfl⟩ : ∃ x : World, x = wc := ⟨_, rfl⟩
  obtain ⟨bh, loh, hih, sh', kh', rfl, rfl, hE, hb1h, hb2h, hl1h, hh1h, hd1h, hBh, hgo26⟩ := hcut
  obtain ⟨As26, cs26, rfl, _, _⟩ := hgo26.at_.1.len; obtain ⟨Ak26, ck26, rfl, _, _⟩ := hgo26.at_.2.len
  have HBh := Lib.hid hBh
  have Hgo26 := Lib.hid hgo26
  clear hBh hgo26
  clear ba00 ba01 ba0g
  have ba0 := Hba0.out.ext hE
  clear Hba0
  have ba00 := ba0.at0
  have ba01 := ba0.at1
  have ba0g := ba0.1
  have Hba0 := Lib.hid ba0
  clear ba0
  clear ba10 ba11 ba12 ba13 ba1g
  have ba1 := Hba1.out.ext hE
  clear Hba1
  have ba10 := ba1.at0
  have ba11 := ba1.at1
  have ba12 := ba1.at2
  have ba13 := ba1.at3
  have ba1g := ba1.1
  have Hba1 := Lib.hid ba1
  clear ba1
  clear bxw0 bxw1 bxwg
  have bxw := Hbxw.out.ext hE
  clear Hbxw
  have bxw0 := bxw.at0
  have bxw1 := bxw.at1
  have bxwg := bxw.1
  have Hbxw := Lib.hid bxw
  clear bxw
  clear bx00 bx01 bx0g
  have bx0 := Hbx0.out.ext hE
  clear Hbx0
  have bx00 := bx0.at0
  have bx01 := bx0.at1
  have bx0g := bx0.1
  have Hbx0 := Lib.hid bx0
  clear bx0
  clear bxg0 bxg1 bxgg
  have bxg := Hbxg.out.ext hE
  clear Hbxg
  have bxg0 := bxg.at0
  have bxg1 := bxg.at1
  have bxgg := bxg.1
  have Hbxg := Lib.hid bxg
  clear bxg
  have tmp := Lib.hid (show NetAt w26 0 w.heap.size s0 k0 n0 from (H0.out.ext hE (by omega)))
  clear H0
  have H0 := tmp
  clear tmp
  have tmp := Lib.hid (show OwnNet w26 (low) (hiw) (.agg #[.slice As4 (addV n0 ⟨a1, b1, c1, d1⟩).sets.length cs4, .slice Ak4 (addV n0 ⟨a1, b1, c1, d1⟩).links.length ck4]) (addV n0 ⟨a1, b1, c1, d1⟩) from (W.out.ext' hE (by omega)))
  clear W
  have W := tmp
  clear tmp
  have tmp := Lib.hid (show MarkedNet w26 (log) (hig) (.agg #[.slice As10 (addV n0 ⟨a1, b1, c1, d1⟩).sets.length cs10, .slice Ak10 (addV n0 ⟨a1, b1, c1, d1⟩).links.length ck10]) (addV n0 ⟨a1, b1, c1, d1⟩) 1 from (G.out.ext hE (by omega)))
  clear G
  have G := tmp
  clear tmp
  have hz27 : w23.heap.size ≤ w26.heap.size := hE.size
  replace hx : Ext w w26 := hx.trans hE
  clear hE
  have bh' := HBh.out
  have bxh := bh'
  clear HBh bh'
  have bxh0 := bxh.at0
  have bxh1 := bxh.at1
  have bxhg := bxh.1
  have Hbxh := Lib.hid bxh
  clear bxh
  have Hh := Lib.hid (show OwnNet w26 (loh) (hih) (.agg #[.slice As26 (addV n0 ⟨a1, b1, c1, d1⟩).sets.length cs26, .slice Ak26 (addV n0 ⟨a1, b1, c1, d1⟩).links.length ck26]) (addV n0 ⟨a1, b1, c1, d1⟩) from Hgo26.out)
  clear Hgo26
  go_wp2_with fail
  refine Calls.mono (laws_eqNetwork _ _ _ _ (addV n0 ⟨a1, b1, c1, d1⟩) _ (NetAt.up Hh.out.at_ (by omega) (by repeat (first | exact Ext.refl _ | assumption | refine Ext.alloc ?_ _ | refine Ext.drew ?_ | refine Ext.drewN ?_ _ | refine Ext.setCell ?_ (by first | (simp; done) | (simp; omega) | omega) _ | refine Ext.trans ?_ (by assumption)))) (NetAt.up W.out.at_ (by omega) (by repeat (first | exact Ext.refl _ | assumption | refine Ext.alloc ?_ _ | refine Ext.drew ?_ | refine Ext.drewN ?_ _ | refine Ext.setCell ?_ (by first | (simp; done) | (simp; omega) | omega) _ | refine Ext.trans ?_ (by assumption))))) ?_
  rintro e w28 ⟨rfl, hx28⟩
  have hE : Ext w26 w28 := (by repeat (first | exact Ext.refl _ | assumption | refine Ext.alloc ?_ _ | refine Ext.drew ?_ | refine Ext.drewN ?_ _ | refine Ext.setCell ?_ (by first | (simp; done) | (simp; omega) | omega) _ | refine Ext.trans ?_ (by assumption)))
  clear ba00 ba01 ba0g
  have ba0 := Hba0.out.ext hE
  clear Hba0
  have ba00 := ba0.at0
  have ba01 := ba0.at1
  have ba0g := ba0.1
  have Hba0 := Lib.hid ba0
  clear ba0
  clear ba10 ba11 ba12 ba13 ba1g
  have ba1 := Hba1.out.ext hE
  clear Hba1
  have ba10 := ba1.at0
  have ba11 := ba1.at1
  have ba12 := ba1.at2
  have ba13 := ba1.at3
  have ba1g := ba1.1
  have Hba1 := Lib.hid ba1
  clear ba1
  clear bxw0 bxw1 bxwg
  have bxw := Hbxw.out.ext hE
  clear Hbxw
  have bxw0 := bxw.at0
  have bxw1 := bxw.at1
  have bxwg := bxw.1
  have Hbxw := Lib.hid bxw
  clear bxw
  clear bx00 bx01 bx0g
  have bx0 := Hbx0.out.ext hE
  clear Hbx0
  have bx00 := bx0.at0
  have bx01 := bx0.at1
  have bx0g := bx0.1
  have Hbx0 := Lib.hid bx0
  clear bx0
  clear bxg0 bxg1 bxgg
  have bxg := Hbxg.out.ext hE
  clear Hbxg
  have bxg0 := bxg.at0
  have bxg1 := bxg.at1
  have bxgg := bxg.1
  have Hbxg := Lib.hid bxg
  clear bxg
  clear bxh0 bxh1 bxhg
  have bxh := Hbxh.out.ext hE
  clear Hbxh
  have bxh0 := bxh.at0
  have bxh1 := bxh.at1
  have bxhg := bxh.1
  have Hbxh := Lib.hid bxh
  clear bxh
  have tmp := Lib.hid (show NetAt w28 0 w.heap.size s0 k0 n0 from (H0.out.ext hE (by omega)))
  clear H0
  have H0 := tmp
  clear tmp
  have tmp := Lib.hid (show OwnNet w28 (low) (hiw) (.agg #[.slice As4 (addV n0 ⟨a1, b1, c1, d1⟩).sets.length cs4, .slice Ak4 (addV n0 ⟨a1, b1, c1, d1⟩).links.length ck4]) (addV n0 ⟨a1, b1, c1, d1⟩) from (W.out.ext' hE (by omega)))
  clear W
  have W := tmp
  clear tmp
  have tmp := Lib.hid (show MarkedNet w28 (log) (hig) (.agg #[.slice As10 (addV n0 ⟨a1, b1, c1, d1⟩).sets.length cs10, .slice Ak10 (addV n0 ⟨a1, b1, c1, d1⟩).links.length ck10]) (addV n0 ⟨a1, b1, c1, d1⟩) 1 from (G.out.ext hE (by omega)))
  clear G
  have G := tmp
  clear tmp
  have tmp := Lib.hid (show OwnNet w28 (loh) (hih) (.agg #[.slice As26 (addV n0 ⟨a1, b1, c1, d1⟩).sets.length cs26, .slice Ak26 (addV n0 ⟨a1, b1, c1, d1⟩).links.length ck26]) (addV n0 ⟨a1, b1, c1, d1⟩) from (Hh.out.ext' hE (by omega)))
  clear Hh
  have Hh := tmp
  clear tmp
  have hz29 : w26.heap.size ≤ w28.heap.size := hE.size
  replace hx : Ext w w28 := hx.trans hE
  clear hE
  clear hx28
  go_wp2_with fail
  refine Calls.mono (laws_heldNetwork _ _ _ _ (addV n0 ⟨a1, b1, c1, d1⟩) 1 _ G.out (by omega) HsR.out (by omega) (by omega)) ?_
  rintro e w30 ⟨rfl, hx30⟩
  have hE : Ext w28 w30 := (by repeat (first | exact Ext.refl _ | assumption | refine Ext.alloc ?_ _ | refine Ext.drew ?_ | refine Ext.drewN ?_ _ | refine Ext.setCell ?_ (by first | (simp; done) | (simp; omega) | omega) _ | refine Ext.trans ?_ (by assumption)))
  clear ba00 ba01 ba0g
  have ba0 := Hba0.out.ext hE
  clear Hba0
  have ba00 := ba0.at0
  have ba01 := ba0.at1
  have ba0g := ba0.1
  have Hba0 := Lib.hid ba0
  clear ba0
  clear ba10 ba11 ba12 ba13 ba1g
  have ba1 := Hba1.out.ext hE
  clear Hba1
  have ba10 := ba1.at0
  have ba11 := ba1.at1
  have ba12 := ba1.at2
  have ba13 := ba1.at3
  have ba1g := ba1.1
  have Hba1 := Lib.hid ba1
  clear ba1
  clear bxw0 bxw1 bxwg
  have bxw := Hbxw.out.ext hE
  clear Hbxw
  have bxw0 := bxw.at0
  have bxw1 := bxw.at1
  have bxwg := bxw.1
  have Hbxw := Lib.hid bxw
  clear bxw
  clear bx00 bx01 bx0g
  have bx0 := Hbx0.out.ext hE
  clear Hbx0
  have bx00 := bx0.at0
  have bx01 := bx0.at1
  have bx0g := bx0.1
  have Hbx0 := Lib.hid bx0
  clear bx0
  clear bxg0 bxg1 bxgg
  have bxg := Hbxg.out.ext hE
  clear Hbxg
  have bxg0 := bxg.at0
  have bxg1 := bxg.at1
  have bxgg := bxg.1
  have Hbxg := Lib.hid bxg
  clear bxg
  clear bxh0 bxh1 bxhg
  have bxh := Hbxh.out.ext hE
  clear Hbxh
  have bxh0 := bxh.at0
  have bxh1 := bxh.at1
  have bxhg := bxh.1
  have Hbxh := Lib.hid bxh
  clear bxh
  have tmp := Lib.hid (show NetAt w30 0 w.heap.size s0 k0 n0 from (H0.out.ext hE (by omega)))
  clear H0
  have H0 := tmp
  clear tmp
  have tmp := Lib.hid (show OwnNet w30 (low) (hiw) (.agg #[.slice As4 (addV n0 ⟨a1, b1, c1, d1⟩).sets.length cs4, .slice Ak4 (addV n0 ⟨a1, b1, c1, d1⟩).links.length ck4]) (addV n0 ⟨a1, b1, c1, d1⟩) from (W.out.ext' hE (by omega)))
  clear W
  have W := tmp
  clear tmp
  have tmp := Lib.hid (show MarkedNet w30 (log) (hig) (.agg #[.slice As10 (addV n0 ⟨a1, b1, c1, d1⟩).sets.length cs10, .slice Ak10 (addV n0 ⟨a1, b1, c1, d1⟩).links.length ck10]) (addV n0 ⟨a1, b1, c1, d1⟩) 1 from (G.out.ext hE (by omega)))
  clear G
  have G := tmp
  clear tmp
  have tmp := Lib.hid (show OwnNet w30 (loh) (hih) (.agg #[.slice As26 (addV n0 ⟨a1, b1, c1, d1⟩).sets.length cs26, .slice Ak26 (addV n0 ⟨a1, b1, c1, d1⟩).links.length ck26]) (addV n0 ⟨a1, b1, c1, d1⟩) from (Hh.out.ext' hE (by omega)))
  clear Hh
  have Hh := tmp
  clear tmp
  have hz31 : w28.heap.size ≤ w30.heap.size := hE.size
  replace hx : Ext w w30 := hx.trans hE
  clear hE
  clear hx30
  rw [hmm]
  go_wp2_with fail
  go_ret
  exact ⟨rfl, hx⟩
end Go.Proofs.Ytkpoelgaomgjlaa
