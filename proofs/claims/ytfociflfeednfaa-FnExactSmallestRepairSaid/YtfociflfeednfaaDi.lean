/- Contracts: DisputedStatements. -/
import Derived.Test.YtfociflfeednfaaCf
import Derived.Test.YtfociflfeednfaaM
namespace Go.Proofs.Ytfociflfeednfaa
set_option linter.unusedVariables false
set_option linter.unusedSimpArgs false
open Go.RowKit
attribute [local go_sem] cell_onto

theorem boxInts (w : World) (o : Obj) (x : Int) (T : TypeId) : Ints ((w.alloc o).alloc (.cells #[.int .i64 x] T)) 0 ((w.alloc o).alloc (.cells #[.int .i64 x] T)).heap.size (.slice (some ⟨w.heap.size + 1, 0, none⟩) 1 1) [x] := by
  have := (Boxed.new (w.alloc o) [.int .i64 x] T).row (sz := 1) (f := intCell [x]) rfl (int_cells x)
  rwa [show (w.alloc o).heap.size = w.heap.size + 1 from World.size_alloc _ _] at this
theorem boxInts0 (w : World) (x : Int) (T : TypeId) : Ints (w.alloc (.cells #[.int .i64 x] T)) 0 (w.alloc (.cells #[.int .i64 x] T)).heap.size (.slice (some ⟨w.heap.size, 0, none⟩) 1 1) [x] :=
  (Boxed.new w [.int .i64 x] T).row (sz := 1) (f := intCell [x]) rfl (int_cells x)
theorem NewInts2.of_row {w w' : World} {b T : Nat} {v : Value} {l : List Int} (c : Int) (hx : Ext w w') (h : w'.ownsRow b T 1 v l.length (cellsOf (l.length * 1) (intCell l))) (hb : w.heap.size ≤ b) : NewInts2 l c w (.returned (.tuple #[v, .int .i64 c])) w' := by
  obtain ⟨g, hg, ho⟩ := Own.of_owned h
  exact ⟨v, g, rfl, hx, fun h0 => by have := (hg h0).2; omega, ho⟩
theorem emptyRow (w : World) (o : Obj) (T : TypeId) : ((w.alloc o).alloc (.cells #[] T)).ownsRow (w.heap.size + 1) T 1 (.slice (some ⟨w.heap.size + 1, 0, none⟩) 0 0) 0 (cellsOf (0 * 1) (intCell [])) := by
  have := World.ownsRow_made (base := w.heap.size + 1) (e := T) (size := 1) (w.alloc o) #[] 0 (by simp) (Nat.zero_le _) rfl
  simpa [cellsOf] using this

set_option maxHeartbeats 4000000 in
theorem impl_DisputedStatements (s k : Value) (n : Net) (w : World) (h : NetIn w s k n) : Calls Try.prog 15 #[.agg #[s, k]] w (NewInts2 (dispL n) (blE n []) w) := by
  have H := Lib.hid h
  clear h
  go_enter Try.func15, Try.ntmps15
  go_wp2_with fail
  refine Calls.mono (impl_checkBlame s k _ n [] _ (H.out.up (by repeat (first | exact Ext.refl _ | assumption | refine Ext.alloc ?_ _ | refine Ext.drew ?_ | refine Ext.drewN ?_ _ | refine Ext.setCell ?_ (by first | (simp; done) | (simp; omega) | omega) _ | refine Ext.trans ?_ (by assumption)))) (nilInts _)) ?_
  rintro e w1 ⟨rfl, hx1⟩
  have hb := (Boxed.new w [s, k] 33).ext hx1; have hb0 := hb.at0; have hb1 := hb.at1; have hbg := hb.1; have Hhb := Lib.hid hb; clear hb
  have hx : Ext w w1 := (by repeat (first | exact Ext.refl _ | assumption | refine Ext.alloc ?_ _ | refine Ext.drew ?_ | refine Ext.drewN ?_ _ | refine Ext.setCell ?_ (by first | (simp; done) | (simp; omega) | omega) _ | refine Ext.trans ?_ (by assumption)))
  have Hb1 : Hid (Boxed w1 w.heap.size [s, k]) := Lib.hid Hhb.out
  have hz1 := hx.size
  have hzs : w.heap.size < w1.heap.size := Hb1.out.1
  clear hx1
  by_cases hc : blE n [] = 0
  · have Hc := Lib.hid hc
    have Hok := Lib.hid (blE_zero hc).1
    have Hb := Lib.hid (blE_zero hc).2.2
    have h8 := (blE_zero hc).1.1
    have h20 := (blE_zero hc).1.2.1
    have hd : (blE n [] != 0) = false := by rw [hc]; rfl
    obtain ⟨N, hN⟩ : ∃ N, N = allS n := ⟨_, rfl⟩
    have HN := Lib.hid hN
    have hN28 : N ≤ 28 := by rw [hN]; unfold allS; omega
    have Hrow0 : Hid ((w1.alloc (.cells #[] 2)).ownsRow w1.heap.size 2 1 (.slice (some ⟨w1.heap.size, 0, none⟩) 0 0) 0 (cellsOf (0 * 1) (intCell []))) := Lib.hid (by
      have := World.ownsRow_made (base := w1.heap.size) (e := 2) (size := 1) w1 #[] 0 (by simp) (Nat.zero_le _) rfl
      simpa [cellsOf] using this)
    clear hc hN
    go_wp2_with fail
    refine Calls.mono (impl_statementsOf s k n _ (H.out.up (by repeat (first | exact Ext.refl _ | assumption | refine Ext.alloc ?_ _ | refine Ext.drew ?_ | refine Ext.drewN ?_ _ | refine Ext.setCell ?_ (by first | (simp; done) | (simp; omega) | omega) _ | refine Ext.trans ?_ (by assumption)))) ⟨by omega, by omega⟩) ?_
    rintro e w3 ⟨rfl, hx3⟩
    have e1 : (n.sets.length : Int) + n.links.length = (N : Int) := by rw [HN.out]; unfold allS; omega
    rw [e1]
    have Hrow1 := Lib.hid (row_ext Hrow0.out hx3)
    have Hb3 := Lib.hid (Hb1.out.ext (((Ext.refl w1).alloc _).trans hx3))
    have hxw3 : Ext w w3 := (by repeat (first | exact Ext.refl _ | assumption | refine Ext.alloc ?_ _ | refine Ext.drew ?_ | refine Ext.drewN ?_ _ | refine Ext.setCell ?_ (by first | (simp; done) | (simp; omega) | omega) _ | refine Ext.trans ?_ (by assumption)))
    have hz13 : w1.heap.size ≤ w3.heap.size := by have := hx3.size; simp at this; omega
    clear hb0 hb1 hbg Hhb Hb1 Hrow0 hx3
    have hb := Hb3.out; have hb0 := hb.at0; have hb1 := hb.at1; have hbg := hb.1; have Hhb := Lib.hid hb; clear hb
    go_wp2_with fail
    go_loopg [5, 6, 15] N (fun q u5 u6 i wr => ∃ j : Nat, j + q = N ∧ i = .int .i64 j ∧ Ext w wr ∧ w1.heap.size ≤ wr.heap.size ∧ Boxed wr w.heap.size [s, k] ∧
      wr.ownsRow w1.heap.size 2 1 u5 (dispTo n j).length (cellsOf ((dispTo n j).length * 1) (intCell (dispTo n j))))
    case atStart => exact ⟨0, by omega, rfl, (by repeat (first | exact Ext.refl _ | assumption | refine Ext.alloc ?_ _ | refine Ext.drew ?_ | refine Ext.drewN ?_ _ | refine Ext.setCell ?_ (by first | (simp; done) | (simp; omega) | omega) _ | refine Ext.trans ?_ (by assumption))), hz13, Hb3.out, Hrow1.out⟩
    clear hb0 hb1 hbg Hhb
    case round =>
      obtain ⟨j, hj, rfl, hxr, hz1r, hnb, hown⟩ := hrel
      have nb := hnb; have nb0 := nb.at0; have nb1 := nb.at1; have nbg := nb.1; have Hnb := Lib.hid nb; clear nb
      have Hown := Lib.hid hown
      have hol := dispTo_len n j
      have hzr := hxr.size
      clear hown hnb
      by_cases hlt : j < N
      · have T1 : decide ((j : Int) < (N : Int)) = true := decide_eq_true (by omega)
        have T2 : decide (j < N) = true := decide_eq_true hlt
        go_wp2_with fail
        refine Calls.mono (impl_repairs s k _ n [(j : Int)] _ (H.out.up (by repeat (first | exact Ext.refl _ | assumption | refine Ext.alloc ?_ _ | refine Ext.drew ?_ | refine Ext.drewN ?_ _ | refine Ext.setCell ?_ (by first | (simp; done) | (simp; omega) | omega) _ | refine Ext.trans ?_ (by assumption)))) (boxInts0 wr j 2) Hok.out) ?_
        rintro e w4 ⟨rfl, hx4⟩
        have hxw4 : Ext w w4 := (by repeat (first | exact Ext.refl _ | assumption | refine Ext.alloc ?_ _ | refine Ext.drew ?_ | refine Ext.drewN ?_ _ | refine Ext.setCell ?_ (by first | (simp; done) | (simp; omega) | omega) _ | refine Ext.trans ?_ (by assumption)))
        have Hrow4 := Lib.hid (row_ext Hown.out (((Ext.refl wr).alloc _).trans hx4))
        have Hb4 := Lib.hid (Hnb.out.ext (((Ext.refl wr).alloc _).trans hx4))
        have hz4 := hx4.size
        simp at hz4
        clear nb0 nb1 nbg Hnb hx4
        have nb := Hb4.out; have nb0 := nb.at0; have nb1 := nb.at1; have nbg := nb.1; have Hnb := Lib.hid nb; clear nb
        have Hre : Hid (repB n [(j : Int)] = B (Rep1 n j)) := Lib.hid (B_eq Iff.rfl)
        rw [Hre.out]
        by_cases hr : Rep1 n j
        · have Hr := Lib.hid (dispTo_yes hr)
          rw [B_true hr]
          clear hr
          go_wp2_with (at_builtin; refine wpList_append_row _ rfl _ _ 26 rfl w1.heap.size 2 1 8 Try.underlying26 (by kernel_rfl) (by omega) _ (dispTo n j).length 1 _ rfl (.inl (row_ext Hrow4.out (by repeat (first | exact Ext.refl _ | assumption | refine Ext.alloc ?_ _ | refine Ext.drew ?_ | refine Ext.drewN ?_ _ | refine Ext.setCell ?_ (by first | (simp; done) | (simp; omega) | omega) _ | refine Ext.trans ?_ (by assumption))))) (.inr (by omega)) 0 _ _ (intCell [(j : Int)]) rfl ((Boxed.new w4 [.int .i64 (j : Int)] 2).row rfl (int_cells _)) (fun _ _ => rfl) (by unfold maxLen; omega) (by omega) (by simp; omega) ?_; intro v5 w5 hown5 hput5)
          go_roundg (N - (j + 1))
          case measure => omega
          case rel =>
            have hxb : Ext w (w4.alloc (.cells #[.int .i64 (j : Int)] 2)) := (by repeat (first | exact Ext.refl _ | assumption | refine Ext.alloc ?_ _ | refine Ext.drew ?_ | refine Ext.drewN ?_ _ | refine Ext.setCell ?_ (by first | (simp; done) | (simp; omega) | omega) _ | refine Ext.trans ?_ (by assumption)))
            exact ⟨j + 1, by omega, by go_num, hput5.ext hxb (by omega), by have := hput5.size; simp at this; omega, (Hb4.out.ext (show Ext w4 (w4.alloc (.cells #[.int .i64 (j : Int)] 2)) from (by repeat (first | exact Ext.refl _ | assumption | refine Ext.alloc ?_ _ | refine Ext.drew ?_ | refine Ext.drewN ?_ _ | refine Ext.setCell ?_ (by first | (simp; done) | (simp; omega) | omega) _ | refine Ext.trans ?_ (by assumption))))).off hput5.1 (fun hh => by have := hh.1; omega), by rw [Hr.out, ← intCells_push, List.length_append]; exact hown5⟩
        · have Hr := Lib.hid (dispTo_no hr)
          rw [B_false hr]
          clear hr
          go_wp2_with fail
          go_roundg (N - (j + 1))
          case measure => omega
          case rel => exact ⟨j + 1, by omega, by go_num, (by repeat (first | exact Ext.refl _ | assumption | refine Ext.alloc ?_ _ | refine Ext.drew ?_ | refine Ext.drewN ?_ _ | refine Ext.setCell ?_ (by first | (simp; done) | (simp; omega) | omega) _ | refine Ext.trans ?_ (by assumption))), by omega, Hb4.out, by rw [Hr.out]; exact Hrow4.out⟩
      · obtain rfl : j = N := by omega
        have T1 : decide ((j : Int) < (j : Int)) = false := decide_eq_false (by omega)
        go_wp2_with fail
        go_ret2
        have h2 := Hown.out
        rw [HN.out] at h2
        rw [dispL_ok Hc.out, Hc.out]
        exact NewInts2.of_row 0 (by repeat (first | exact Ext.refl _ | assumption | refine Ext.alloc ?_ _ | refine Ext.drew ?_ | refine Ext.drewN ?_ _ | refine Ext.setCell ?_ (by first | (simp; done) | (simp; omega) | omega) _ | refine Ext.trans ?_ (by assumption))) h2 (by omega)
  · have Hc := Lib.hid hc
    have hd : (blE n [] != 0) = true := by simp [hc]
    clear hc
    go_wp2_with fail
    go_ret2
    rw [dispL_no Hc.out]
    exact NewInts2.nil _ (by repeat (first | exact Ext.refl _ | assumption | refine Ext.alloc ?_ _ | refine Ext.drew ?_ | refine Ext.drewN ?_ _ | refine Ext.setCell ?_ (by first | (simp; done) | (simp; omega) | omega) _ | refine Ext.trans ?_ (by assumption)))
set_option maxHeartbeats 4000000 in
theorem spec_DisputedStatements (s k : Value) (n : Net) (w : World) (h : NetIn w s k n) : Calls Try.prog 14 #[.agg #[s, k]] w (NewInts2 (dispL n) (blE n []) w) := by
  have H := Lib.hid h
  clear h
  go_enter Try.func14, Try.ntmps14
  go_wp2_with fail
  refine Calls.mono (spec_l21Code s k _ n [] _ (H.out.up (by repeat (first | exact Ext.refl _ | assumption | refine Ext.alloc ?_ _ | refine Ext.drew ?_ | refine Ext.drewN ?_ _ | refine Ext.setCell ?_ (by first | (simp; done) | (simp; omega) | omega) _ | refine Ext.trans ?_ (by assumption)))) (nilInts _)) ?_
  rintro e w1 ⟨rfl, hx1⟩
  have hb := (Boxed.new w [s, k] 33).ext hx1; have hb0 := hb.at0; have hb1 := hb.at1; have hbg := hb.1; have Hhb := Lib.hid hb; clear hb
  have hx : Ext w w1 := (by repeat (first | exact Ext.refl _ | assumption | refine Ext.alloc ?_ _ | refine Ext.drew ?_ | refine Ext.drewN ?_ _ | refine Ext.setCell ?_ (by first | (simp; done) | (simp; omega) | omega) _ | refine Ext.trans ?_ (by assumption)))
  have Hb1 : Hid (Boxed w1 w.heap.size [s, k]) := Lib.hid Hhb.out
  have hz1 := hx.size
  have hzs : w.heap.size < w1.heap.size := Hb1.out.1
  clear hx1
  by_cases hc : blE n [] = 0
  · have Hc := Lib.hid hc
    have Hok := Lib.hid (blE_zero hc).1
    have Hb := Lib.hid (blE_zero hc).2.2
    have h8 := (blE_zero hc).1.1
    have h20 := (blE_zero hc).1.2.1
    have hd : (blE n [] != 0) = false := by rw [hc]; rfl
    obtain ⟨N, hN⟩ : ∃ N, N = allS n := ⟨_, rfl⟩
    have HN := Lib.hid hN
    have hN28 : N ≤ 28 := by rw [hN]; unfold allS; omega
    have Hrow0 : Hid ((w1.alloc (.cells #[] 2)).ownsRow w1.heap.size 2 1 (.slice (some ⟨w1.heap.size, 0, none⟩) 0 0) 0 (cellsOf (0 * 1) (intCell []))) := Lib.hid (by
      have := World.ownsRow_made (base := w1.heap.size) (e := 2) (size := 1) w1 #[] 0 (by simp) (Nat.zero_le _) rfl
      simpa [cellsOf] using this)
    clear hc hN
    go_wp2_with fail
    go_loopg [5, 6] N (fun q u5 i wr => ∃ j : Nat, j + q = N ∧ i = .int .i64 j ∧ Ext w wr ∧ w1.heap.size ≤ wr.heap.size ∧ Boxed wr w.heap.size [s, k] ∧
      wr.ownsRow w1.heap.size 2 1 u5 (dispTo n j).length (cellsOf ((dispTo n j).length * 1) (intCell (dispTo n j))))
    case atStart => exact ⟨0, by omega, rfl, (by repeat (first | exact Ext.refl _ | assumption | refine Ext.alloc ?_ _ | refine Ext.drew ?_ | refine Ext.drewN ?_ _ | refine Ext.setCell ?_ (by first | (simp; done) | (simp; omega) | omega) _ | refine Ext.trans ?_ (by assumption))), by simp, Hb1.out.ext (by repeat (first | exact Ext.refl _ | assumption | refine Ext.alloc ?_ _ | refine Ext.drew ?_ | refine Ext.drewN ?_ _ | refine Ext.setCell ?_ (by first | (simp; done) | (simp; omega) | omega) _ | refine Ext.trans ?_ (by assumption))), Hrow0.out⟩
    clear hb0 hb1 hbg Hhb
    case round =>
      obtain ⟨j, hj, rfl, hxr, hz1r, hnb, hown⟩ := hrel
      have nb := hnb; have nb0 := nb.at0; have nb1 := nb.at1; have nbg := nb.1; have Hnb := Lib.hid nb; clear nb
      have Hown := Lib.hid hown
      have hol := dispTo_len n j
      have hzr := hxr.size
      clear hown hnb
      go_wp2_with fail
      refine Calls.mono (spec_l21Count s k n wr (H.out.up hxr) ⟨by omega, by omega⟩) ?_
      rintro e w2 ⟨rfl, hx2⟩
      have e1 : (n.sets.length : Int) + n.links.length = (N : Int) := by rw [HN.out]; unfold allS; omega
      rw [e1]
      have hxr2 : Ext w w2 := hxr.trans hx2
      have Hn2 := Lib.hid (Hnb.out.ext hx2)
      have Hown2 := Lib.hid (row_ext Hown.out hx2)
      clear nb0 nb1 nbg Hnb Hown hxr hzr
      have hzr := hxr2.size
      have hx2z := hx2.size
      have hz12 : w1.heap.size ≤ w2.heap.size := by omega
      have nb := Hn2.out; have nb0 := nb.at0; have nb1 := nb.at1; have nbg := nb.1; have Hnb := Lib.hid nb; clear nb
      by_cases hlt : j < N
      · have T1 : decide ((j : Int) < (N : Int)) = true := decide_eq_true (by omega)
        have T2 : decide (j < N) = true := decide_eq_true hlt
        go_wp2_with fail
        refine Calls.mono (spec_l21Repairs s k _ n [(j : Int)] _ (H.out.up (by repeat (first | exact Ext.refl _ | assumption | refine Ext.alloc ?_ _ | refine Ext.drew ?_ | refine Ext.drewN ?_ _ | refine Ext.setCell ?_ (by first | (simp; done) | (simp; omega) | omega) _ | refine Ext.trans ?_ (by assumption)))) (boxInts0 w2 j 2) Hok.out Hb.out) ?_
        rintro e w4 ⟨rfl, hx4⟩
        have hxw4 : Ext w w4 := (by repeat (first | exact Ext.refl _ | assumption | refine Ext.alloc ?_ _ | refine Ext.drew ?_ | refine Ext.drewN ?_ _ | refine Ext.setCell ?_ (by first | (simp; done) | (simp; omega) | omega) _ | refine Ext.trans ?_ (by assumption)))
        have Hrow4 := Lib.hid (row_ext Hown2.out (((Ext.refl w2).alloc _).trans hx4))
        have Hb4 := Lib.hid (Hnb.out.ext (((Ext.refl w2).alloc _).trans hx4))
        have hz4 := hx4.size
        simp at hz4
        clear nb0 nb1 nbg Hnb hx4
        have nb := Hb4.out; have nb0 := nb.at0; have nb1 := nb.at1; have nbg := nb.1; have Hnb := Lib.hid nb; clear nb
        have Hre : Hid (repB n [(j : Int)] = B (Rep1 n j)) := Lib.hid (B_eq Iff.rfl)
        rw [Hre.out]
        by_cases hr : Rep1 n j
        · have Hr := Lib.hid (dispTo_yes hr)
          rw [B_true hr]
          clear hr
          go_wp2_with (at_builtin; refine wpList_append_row _ rfl _ _ 26 rfl w1.heap.size 2 1 8 Try.underlying26 (by kernel_rfl) (by omega) _ (dispTo n j).length 1 _ rfl (.inl (row_ext Hrow4.out (by repeat (first | exact Ext.refl _ | assumption | refine Ext.alloc ?_ _ | refine Ext.drew ?_ | refine Ext.drewN ?_ _ | refine Ext.setCell ?_ (by first | (simp; done) | (simp; omega) | omega) _ | refine Ext.trans ?_ (by assumption))))) (.inr (by omega)) 0 _ _ (intCell [(j : Int)]) rfl ((Boxed.new w4 [.int .i64 (j : Int)] 2).row rfl (int_cells _)) (fun _ _ => rfl) (by unfold maxLen; omega) (by omega) (by simp; omega) ?_; intro v5 w5 hown5 hput5)
          go_roundg (N - (j + 1))
          case measure => omega
          case rel =>
            have hxb : Ext w (w4.alloc (.cells #[.int .i64 (j : Int)] 2)) := (by repeat (first | exact Ext.refl _ | assumption | refine Ext.alloc ?_ _ | refine Ext.drew ?_ | refine Ext.drewN ?_ _ | refine Ext.setCell ?_ (by first | (simp; done) | (simp; omega) | omega) _ | refine Ext.trans ?_ (by assumption)))
            exact ⟨j + 1, by omega, by go_num, hput5.ext hxb (by omega), by have := hput5.size; simp at this; omega, (Hb4.out.ext (show Ext w4 (w4.alloc (.cells #[.int .i64 (j : Int)] 2)) from (by repeat (first | exact Ext.refl _ | assumption | refine Ext.alloc ?_ _ | refine Ext.drew ?_ | refine Ext.drewN ?_ _ | refine Ext.setCell ?_ (by first | (simp; done) | (simp; omega) | omega) _ | refine Ext.trans ?_ (by assumption))))).off hput5.1 (fun hh => by have := hh.1; omega), by rw [Hr.out, ← intCells_push, List.length_append]; exact hown5⟩
        · have Hr := Lib.hid (dispTo_no hr)
          rw [B_false hr]
          clear hr
          go_wp2_with fail
          go_roundg (N - (j + 1))
          case measure => omega
          case rel => exact ⟨j + 1, by omega, by go_num, (by repeat (first | exact Ext.refl _ | assumption | refine Ext.alloc ?_ _ | refine Ext.drew ?_ | refine Ext.drewN ?_ _ | refine Ext.setCell ?_ (by first | (simp; done) | (simp; omega) | omega) _ | refine Ext.trans ?_ (by assumption))), by omega, Hb4.out, by rw [Hr.out]; exact Hrow4.out⟩
      · obtain rfl : j = N := by omega
        have T1 : decide ((j : Int) < (j : Int)) = false := decide_eq_false (by omega)
        go_wp2_with fail
        go_ret2
        have h2 := Hown2.out
        rw [HN.out] at h2
        rw [dispL_ok Hc.out, Hc.out]
        exact NewInts2.of_row 0 (by repeat (first | exact Ext.refl _ | assumption | refine Ext.alloc ?_ _ | refine Ext.drew ?_ | refine Ext.drewN ?_ _ | refine Ext.setCell ?_ (by first | (simp; done) | (simp; omega) | omega) _ | refine Ext.trans ?_ (by assumption))) h2 (by omega)
  · have Hc := Lib.hid hc
    have hd : (blE n [] != 0) = true := by simp [hc]
    clear hc
    go_wp2_with fail
    go_ret2
    rw [dispL_no Hc.out]
    exact NewInts2.nil _ (by repeat (first | exact Ext.refl _ | assumption | refine Ext.alloc ?_ _ | refine Ext.drew ?_ | refine Ext.drewN ?_ _ | refine Ext.setCell ?_ (by first | (simp; done) | (simp; omega) | omega) _ | refine Ext.trans ?_ (by assumption)))
end Go.Proofs.Ytfociflfeednfaa
