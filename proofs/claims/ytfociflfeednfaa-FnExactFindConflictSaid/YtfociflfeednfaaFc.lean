/- Contracts: FindConflict. -/
import Derived.Test.YtfociflfeednfaaIc
import Derived.Test.YtfociflfeednfaaDi
namespace Go.Proofs.Ytfociflfeednfaa
set_option linter.unusedVariables false
set_option linter.unusedSimpArgs false
open Go.RowKit
attribute [local go_sem] cell_onto

set_option maxHeartbeats 1000000 in
theorem slices_Index_at (v : Value) (l : List Int) (x : Int) (p : Nat) (w : World) (h : Ints w 0 w.heap.size v l) (hp : p < l.length) (hx : inAt l p = x) (hlt : ∀ i, i < p → inAt l i ≠ x) :
    Calls Try.prog 44 #[v, .int .i64 x] w (RetX (.int .i64 p) w) := by
  obtain ⟨A, c, rfl, hn, hc⟩ := h.len
  have H := Lib.hid h
  have Hx := Lib.hid hx
  have Hl := Lib.hid hlt
  clear h hx hlt
  go_enter Try.func44, Try.ntmps44
  go_wp2_with fail
  go_loopg [5, 8] (p + 1) (fun k u i wr => ∃ j : Nat, j + k = p + 1 ∧ j ≤ p ∧ i = .int .i64 j ∧ Ext w wr)
  case atStart => exact ⟨0, by omega, by omega, rfl, Ext.refl _⟩
  case round =>
    obtain ⟨j, hj, hjp, rfl, hxr⟩ := hrel
    have hlt : j < l.length := by omega
    obtain ⟨b, off, rfl, _, hb, h1⟩ := (H.out.ext hxr (Nat.le_refl _)).at_ hlt
    by_cases e : j = p
    · subst e
      have e1 : (x == inAt l j) = true := by simp [Hx.out]
      go_wp2_with fail
      go_ret
      exact ⟨rfl, (by repeat (first | exact Ext.refl _ | assumption | refine Ext.alloc ?_ _ | refine Ext.drew ?_ | refine Ext.drewN ?_ _ | refine Ext.setCell ?_ (by first | (simp; done) | (simp; omega) | omega) _ | refine Ext.trans ?_ (by assumption)))⟩
    · have e1 : (x == inAt l j) = false := by simp; exact fun h => Hl.out j (by omega) h.symm
      have hjp2 : j < p := by omega
      clear e
      go_wp2_with fail
      go_roundg (p + 1 - (j + 1))
      case measure => omega
      case rel => exact ⟨j + 1, by omega, by omega, by go_num, (by repeat (first | exact Ext.refl _ | assumption | refine Ext.alloc ?_ _ | refine Ext.drew ?_ | refine Ext.drewN ?_ _ | refine Ext.setCell ?_ (by first | (simp; done) | (simp; omega) | omega) _ | refine Ext.trans ?_ (by assumption)))⟩
/-- the list under way -/
def FcSt (n : Net) (lo k : Nat) (u : Value) (w : World) : Prop := ∃ g, Own w g 1 u (outL n k).length (intCell (outL n k)) ∧ (0 < (outL n k).length → lo ≤ g)
theorem FcSt.ext {n : Net} {lo k : Nat} {u : Value} {w w' : World} (h : FcSt n lo k u w) (hx : Ext w w') : FcSt n lo k u w' := by
  obtain ⟨g, h1, h2⟩ := h
  exact ⟨g, h1.ext hx, h2⟩
theorem FcSt.ints {n : Net} {lo k : Nat} {u : Value} {w : World} (h : FcSt n lo k u w) : Ints w 0 w.heap.size u (outL n k) := by
  obtain ⟨g, h1, _⟩ := h
  exact Ints.of_own h1
theorem FcSt.of_list {n : Net} {lo k g : Nat} {u : Value} {w : World} {l : List Int} (h : Own w g 1 u l.length (intCell l)) (hg : 0 < l.length → lo ≤ g) (e : outL n k = l) : FcSt n lo k u w := by
  unfold FcSt
  rw [e]
  exact ⟨g, h, hg⟩
theorem outL_small {n : Net} (h : NetOk n) (k : Nat) (hk : k ≤ allS n) : (outL n k).length ≤ 28 := by
  rw [outL_len]
  have h1 := kept_len n k
  have h2 := h.1
  have h3 := h.2.1
  unfold allS at *
  omega

set_option maxHeartbeats 8000000 in
theorem impl_FindConflict (s k : Value) (n : Net) (w : World) (h : NetIn w s k n) : Calls Try.prog 22 #[.agg #[s, k]] w (NewInts2 (fcL n) (fcE n) w) := by
  have H := Lib.hid h
  clear h
  go_enter Try.func22, Try.ntmps22
  go_wp2_with fail
  refine Calls.mono (impl_checkBlame s k _ n [] _ (H.out.up (by repeat (first | exact Ext.refl _ | assumption | refine Ext.alloc ?_ _ | refine Ext.drew ?_ | refine Ext.drewN ?_ _ | refine Ext.setCell ?_ (by first | (simp; done) | (simp; omega) | omega) _ | refine Ext.trans ?_ (by assumption)))) (nilInts _)) ?_
  rintro e w1 ⟨rfl, hx1⟩
  have hb := (Boxed.new w [s, k] 33).ext hx1; have hb0 := hb.at0; have hb1 := hb.at1; have hbg := hb.1; have Hhb := Lib.hid hb; clear hb
  have hx : Ext w w1 := (by repeat (first | exact Ext.refl _ | assumption | refine Ext.alloc ?_ _ | refine Ext.drew ?_ | refine Ext.drewN ?_ _ | refine Ext.setCell ?_ (by first | (simp; done) | (simp; omega) | omega) _ | refine Ext.trans ?_ (by assumption)))
  have Hb1 : Hid (Boxed w1 w.heap.size [s, k]) := Lib.hid Hhb.out
  have hzs : w.heap.size < w1.heap.size := Hb1.out.1
  clear hx1
  by_cases hc : blE n [] = 0
  · have Hc := Lib.hid hc
    have Hok := Lib.hid (blE_zero hc).1
    have h8 := (blE_zero hc).1.1
    have h20 := (blE_zero hc).1.2.1
    have hd : (blE n [] != 0) = false := by rw [hc]; rfl
    obtain ⟨N, hN⟩ : ∃ N, N = allS n := ⟨_, rfl⟩
    have HN := Lib.hid hN
    have hN28 : N ≤ 28 := by rw [hN]; unfold allS; omega
    clear hc hN
    go_wp2_with fail
    refine Calls.mono (impl_isSolvable s k n _ (H.out.up (by repeat (first | exact Ext.refl _ | assumption | refine Ext.alloc ?_ _ | refine Ext.drew ?_ | refine Ext.drewN ?_ _ | refine Ext.setCell ?_ (by first | (simp; done) | (simp; omega) | omega) _ | refine Ext.trans ?_ (by assumption)))) (NetFit.of Hok.out)) ?_
    rintro e w2 ⟨rfl, hx2⟩
    have hxw2 : Ext w w2 := (by repeat (first | exact Ext.refl _ | assumption | refine Ext.alloc ?_ _ | refine Ext.drew ?_ | refine Ext.drewN ?_ _ | refine Ext.setCell ?_ (by first | (simp; done) | (simp; omega) | omega) _ | refine Ext.trans ?_ (by assumption)))
    have Hb2 := Lib.hid (Hb1.out.ext hx2)
    have hz12 := hx2.size
    clear hb0 hb1 hbg Hhb Hb1 hx2
    have hb := Hb2.out; have hb0 := hb.at0; have hb1 := hb.at1; have hbg := hb.1; have Hhb := Lib.hid hb; clear hb
    by_cases hs : Sol n
    · have Hv := Lib.hid (fc_sol Hc.out hs)
      rw [B_true hs]
      clear hs
      go_wp2_with fail
      go_ret2
      rw [Hv.out.1, Hv.out.2]
      exact NewInts2.nil 4 (by repeat (first | exact Ext.refl _ | assumption | refine Ext.alloc ?_ _ | refine Ext.drew ?_ | refine Ext.drewN ?_ _ | refine Ext.setCell ?_ (by first | (simp; done) | (simp; omega) | omega) _ | refine Ext.trans ?_ (by assumption)))
    · have Hv := Lib.hid (fc_ok Hc.out hs)
      rw [B_false hs]
      clear hs
      have Hrow0 : Hid ((w2.alloc (.cells #[] 2)).ownsRow w2.heap.size 2 1 (.slice (some ⟨w2.heap.size, 0, none⟩) 0 0) 0 (cellsOf (0 * 1) (intCell []))) := Lib.hid (by
        have := World.ownsRow_made (base := w2.heap.size) (e := 2) (size := 1) w2 #[] 0 (by simp) (Nat.zero_le _) rfl
        simpa [cellsOf] using this)
      go_wp2_with fail
      refine Calls.mono (impl_statementsOf s k n _ (H.out.up (by repeat (first | exact Ext.refl _ | assumption | refine Ext.alloc ?_ _ | refine Ext.drew ?_ | refine Ext.drewN ?_ _ | refine Ext.setCell ?_ (by first | (simp; done) | (simp; omega) | omega) _ | refine Ext.trans ?_ (by assumption)))) ⟨by omega, by omega⟩) ?_
      rintro e w3 ⟨rfl, hx3⟩
      have e1 : (n.sets.length : Int) + n.links.length = (N : Int) := by rw [HN.out]; unfold allS; omega
      rw [e1]
      have Hrow1 := Lib.hid (row_ext Hrow0.out hx3)
      have Hb3 := Lib.hid (Hb2.out.ext (((Ext.refl w2).alloc _).trans hx3))
      have hxw3 : Ext w w3 := (by repeat (first | exact Ext.refl _ | assumption | refine Ext.alloc ?_ _ | refine Ext.drew ?_ | refine Ext.drewN ?_ _ | refine Ext.setCell ?_ (by first | (simp; done) | (simp; omega) | omega) _ | refine Ext.trans ?_ (by assumption)))
      have hz13 : w2.heap.size ≤ w3.heap.size := by have := hx3.size; simp at this; omega
      clear hb0 hb1 hbg Hhb Hb2 Hrow0 hx3
      have hb := Hb3.out; have hb0 := hb.at0; have hb1 := hb.at1; have hbg := hb.1; have Hhb := Lib.hid hb; clear hb
      go_wp2_with fail
      go_loopg [5, 6, 19] N (fun q u5 u6 i wr => ∃ j : Nat, j + q = N ∧ i = .int .i64 j ∧ Ext w wr ∧ w2.heap.size ≤ wr.heap.size ∧ Boxed wr w.heap.size [s, k] ∧
        wr.ownsRow w2.heap.size 2 1 u5 (rgI 0 j).length (cellsOf ((rgI 0 j).length * 1) (intCell (rgI 0 j))))
      case atStart => exact ⟨0, by omega, rfl, (by repeat (first | exact Ext.refl _ | assumption | refine Ext.alloc ?_ _ | refine Ext.drew ?_ | refine Ext.drewN ?_ _ | refine Ext.setCell ?_ (by first | (simp; done) | (simp; omega) | omega) _ | refine Ext.trans ?_ (by assumption))), hz13, Hb3.out, Hrow1.out⟩
      clear hb0 hb1 hbg Hhb
      case round =>
        obtain ⟨j, hj, rfl, hxr, hz1r, hnb, hown⟩ := hrel
        have nb := hnb; have nb0 := nb.at0; have nb1 := nb.at1; have nbg := nb.1; have Hnb := Lib.hid nb; clear nb
        have Hown := Lib.hid hown
        have hol := rgI_len 0 j
        clear hown hnb
        by_cases hlt : j < N
        · have T1 : decide ((j : Int) < (N : Int)) = true := decide_eq_true (by omega)
          have T2 : decide (j < N) = true := decide_eq_true hlt
          have Hsn : Hid (rgI 0 (j + 1) = rgI 0 j ++ [(j : Int)]) := Lib.hid (by rw [rgI_snoc]; simp)
          go_wp2_with (at_builtin; refine wpList_append_row _ rfl _ _ 26 rfl w2.heap.size 2 1 8 Try.underlying26 (by kernel_rfl) (by omega) _ (rgI 0 j).length 1 _ rfl (.inl (row_ext Hown.out (by repeat (first | exact Ext.refl _ | assumption | refine Ext.alloc ?_ _ | refine Ext.drew ?_ | refine Ext.drewN ?_ _ | refine Ext.setCell ?_ (by first | (simp; done) | (simp; omega) | omega) _ | refine Ext.trans ?_ (by assumption))))) (.inr (by omega)) 0 _ _ (intCell [(j : Int)]) rfl ((Boxed.new wr [.int .i64 (j : Int)] 2).row rfl (int_cells _)) (fun _ _ => rfl) (by unfold maxLen; omega) (by omega) (by simp; omega) ?_; intro v5 w5 hown5 hput5)
          go_roundg (N - (j + 1))
          case measure => omega
          case rel =>
            have hxb : Ext w (wr.alloc (.cells #[.int .i64 (j : Int)] 2)) := (by repeat (first | exact Ext.refl _ | assumption | refine Ext.alloc ?_ _ | refine Ext.drew ?_ | refine Ext.drewN ?_ _ | refine Ext.setCell ?_ (by first | (simp; done) | (simp; omega) | omega) _ | refine Ext.trans ?_ (by assumption)))
            exact ⟨j + 1, by omega, by go_num, hput5.ext hxb (by omega), by have := hput5.size; simp at this; omega, (Hnb.out.ext (show Ext wr (wr.alloc (.cells #[.int .i64 (j : Int)] 2)) from (by repeat (first | exact Ext.refl _ | assumption | refine Ext.alloc ?_ _ | refine Ext.drew ?_ | refine Ext.drewN ?_ _ | refine Ext.setCell ?_ (by first | (simp; done) | (simp; omega) | omega) _ | refine Ext.trans ?_ (by assumption))))).off hput5.1 (fun hh => by have := hh.1; omega), by rw [Hsn.out, ← intCells_push, List.length_append]; exact hown5⟩
        · obtain rfl : j = N := by omega
          have T1 : decide ((j : Int) < (j : Int)) = false := decide_eq_false (by omega)
          have Hst0 : Hid (FcSt n w.heap.size 0 u5 wr) := Lib.hid (by
            obtain ⟨g, hg, ho⟩ := Own.of_owned Hown.out
            exact FcSt.of_list ho (fun h0 => by have := (hg h0).2; omega) (by rw [outL_zero, ← HN.out]))
          clear Hown
          go_wp2_with fail
          refine Calls.mono (impl_statementsOf s k n _ (H.out.up hxr) ⟨by omega, by omega⟩) ?_
          rintro e w4 ⟨rfl, hx4⟩
          rw [e1]
          have Hst1 := Lib.hid (Hst0.out.ext hx4)
          have Hb4 := Lib.hid (Hnb.out.ext hx4)
          have hxw4 : Ext w w4 := (by repeat (first | exact Ext.refl _ | assumption | refine Ext.alloc ?_ _ | refine Ext.drew ?_ | refine Ext.drewN ?_ _ | refine Ext.setCell ?_ (by first | (simp; done) | (simp; omega) | omega) _ | refine Ext.trans ?_ (by assumption)))
          clear nb0 nb1 nbg Hnb Hst0 hx4
          go_wp2_with fail
          go_loopg [5, 7, 8, 29] j (fun q u5 u7 u8 i wr => ∃ t : Nat, t + q = j ∧ i = .int .i64 t ∧ Ext w wr ∧ Boxed wr w.heap.size [s, k] ∧ Hid (FcSt n w.heap.size t u5 wr))
          case atStart => exact ⟨0, by omega, rfl, (by repeat (first | exact Ext.refl _ | assumption | refine Ext.alloc ?_ _ | refine Ext.drew ?_ | refine Ext.drewN ?_ _ | refine Ext.setCell ?_ (by first | (simp; done) | (simp; omega) | omega) _ | refine Ext.trans ?_ (by assumption))), Hb4.out, Hst1⟩
          case round =>
            obtain ⟨t, ht, rfl, hxr, hnb, Hst⟩ := hrel
            have nb := hnb; have nb0 := nb.at0; have nb1 := nb.at1; have nbg := nb.1; have Hnb := Lib.hid nb; clear nb
            clear hnb
            by_cases hlt : t < j
            · have T3 : decide ((t : Int) < (j : Int)) = true := decide_eq_true (by omega)
              have T4 : decide (t < j) = true := decide_eq_true hlt
              have Hta := Lib.hid (show t < allS n by rw [← HN.out]; exact hlt)
              have hsm := outL_small Hok.out t (by have := Hta.out; omega)
              have Hix := Lib.hid (outL_index Hta.out)
              have hkl : (kept n t).length < (outL n t).length := by rw [outL_len]; have := Hta.out; omega
              go_wp2_with fail
              refine Calls.mono (slices_Index_at _ (outL n t) (t : Int) (kept n t).length _ Hst.out.ints hkl Hix.out.1 Hix.out.2) ?_
              rintro e w5 ⟨rfl, hx5⟩
              have Hst5 := Lib.hid (Hst.out.ext hx5)
              go_wp2_with fail
              refine Calls.mono (impl_lessOne _ (outL n t) (kept n t).length _ Hst5.out.ints hkl (by omega)) ?_
              rintro e w6 ⟨uv, g6, rfl, hx6, hg6, hu6⟩
              have Hu6 := Lib.hid hu6
              have hz56 := hx5.size
              have hzr := hxr.size
              have Hg6 := Lib.hid (show 0 < ((outL n t).eraseIdx (kept n t).length).length → w.heap.size ≤ g6 from fun h0 => by have := hg6 h0; omega)
              have Hst6 := Lib.hid (Hst5.out.ext hx6)
              have Hb6 := Lib.hid (Hnb.out.ext (hx5.trans hx6))
              have hxw6 : Ext w w6 := (by repeat (first | exact Ext.refl _ | assumption | refine Ext.alloc ?_ _ | refine Ext.drew ?_ | refine Ext.drewN ?_ _ | refine Ext.setCell ?_ (by first | (simp; done) | (simp; omega) | omega) _ | refine Ext.trans ?_ (by assumption)))
              clear nb0 nb1 nbg Hnb hu6 hg6 hx5 hx6 Hst Hst5
              have nb := Hb6.out; have nb0 := nb.at0; have nb1 := nb.at1; have nbg := nb.1; have Hnb := Lib.hid nb; clear nb
              go_wp2_with fail
              refine Calls.mono (impl_contradict s k uv n ((outL n t).eraseIdx (kept n t).length) _ (H.out.up hxw6) (Ints.of_own Hu6.out) Hok.out) ?_
              rintro e w7 ⟨rfl, hx7⟩
              have hxw7 : Ext w w7 := (by repeat (first | exact Ext.refl _ | assumption | refine Ext.alloc ?_ _ | refine Ext.drew ?_ | refine Ext.drewN ?_ _ | refine Ext.setCell ?_ (by first | (simp; done) | (simp; omega) | omega) _ | refine Ext.trans ?_ (by assumption)))
              have Hb7 := Lib.hid (Hnb.out.ext hx7)
              cases hcj : conB n ((outL n t).eraseIdx (kept n t).length)
              · have He := Lib.hid (outL_no Hta.out hcj)
                have Hst7 := Lib.hid (Hst6.out.ext hx7)
                clear hcj
                go_wp2_with fail
                go_roundg (j - (t + 1))
                case measure => omega
                case rel => exact ⟨t + 1, by omega, by go_num, (by repeat (first | exact Ext.refl _ | assumption | refine Ext.alloc ?_ _ | refine Ext.drew ?_ | refine Ext.drewN ?_ _ | refine Ext.setCell ?_ (by first | (simp; done) | (simp; omega) | omega) _ | refine Ext.trans ?_ (by assumption))), Hb7.out, Lib.hid (by unfold FcSt; rw [He.out.1]; exact Hst7.out)⟩
              · have He := Lib.hid (outL_yes Hta.out hcj)
                have Hst7 := Lib.hid (FcSt.of_list (n := n) (Hu6.out.ext hx7) Hg6.out He.out.1)
                clear hcj
                go_wp2_with fail
                go_roundg (j - (t + 1))
                case measure => omega
                case rel => exact ⟨t + 1, by omega, by go_num, (by repeat (first | exact Ext.refl _ | assumption | refine Ext.alloc ?_ _ | refine Ext.drew ?_ | refine Ext.drewN ?_ _ | refine Ext.setCell ?_ (by first | (simp; done) | (simp; omega) | omega) _ | refine Ext.trans ?_ (by assumption))), Hb7.out, Hst7⟩
            · obtain rfl : t = j := by omega
              have T3 : decide ((t : Int) < (t : Int)) = false := decide_eq_false (by omega)
              have HN2 : Hid (t = allS n) := Lib.hid HN.out
              go_wp2_with fail
              go_ret2
              obtain ⟨g, h1, h2⟩ := Hst.out
              rw [HN2.out] at h1 h2
              rw [Hv.out.1, Hv.out.2]
              exact ⟨_, g, rfl, (by repeat (first | exact Ext.refl _ | assumption | refine Ext.alloc ?_ _ | refine Ext.drew ?_ | refine Ext.drewN ?_ _ | refine Ext.setCell ?_ (by first | (simp; done) | (simp; omega) | omega) _ | refine Ext.trans ?_ (by assumption))), h2, h1⟩
  · have Hc := Lib.hid (fc_code hc)
    have hd : (blE n [] != 0) = true := by simp [hc]
    clear hc
    go_wp2_with fail
    go_ret2
    rw [Hc.out.1, Hc.out.2]
    exact NewInts2.nil _ (by repeat (first | exact Ext.refl _ | assumption | refine Ext.alloc ?_ _ | refine Ext.drew ?_ | refine Ext.drewN ?_ _ | refine Ext.setCell ?_ (by first | (simp; done) | (simp; omega) | omega) _ | refine Ext.trans ?_ (by assumption)))
set_option maxHeartbeats 8000000 in
theorem spec_FindConflict (s k : Value) (n : Net) (w : World) (h : NetIn w s k n) : Calls Try.prog 21 #[.agg #[s, k]] w (NewInts2 (fcL n) (fcE n) w) := by
  have H := Lib.hid h
  clear h
  go_enter Try.func21, Try.ntmps21
  go_wp2_with fail
  refine Calls.mono (spec_l21Code s k _ n [] _ (H.out.up (by repeat (first | exact Ext.refl _ | assumption | refine Ext.alloc ?_ _ | refine Ext.drew ?_ | refine Ext.drewN ?_ _ | refine Ext.setCell ?_ (by first | (simp; done) | (simp; omega) | omega) _ | refine Ext.trans ?_ (by assumption)))) (nilInts _)) ?_
  rintro e w1 ⟨rfl, hx1⟩
  have hb := (Boxed.new w [s, k] 33).ext hx1; have hb0 := hb.at0; have hb1 := hb.at1; have hbg := hb.1; have Hhb := Lib.hid hb; clear hb
  have hx : Ext w w1 := (by repeat (first | exact Ext.refl _ | assumption | refine Ext.alloc ?_ _ | refine Ext.drew ?_ | refine Ext.drewN ?_ _ | refine Ext.setCell ?_ (by first | (simp; done) | (simp; omega) | omega) _ | refine Ext.trans ?_ (by assumption)))
  have Hb1 : Hid (Boxed w1 w.heap.size [s, k]) := Lib.hid Hhb.out
  have hzs : w.heap.size < w1.heap.size := Hb1.out.1
  clear hx1
  by_cases hc : blE n [] = 0
  · have Hc := Lib.hid hc
    have Hok := Lib.hid (blE_zero hc).1
    have Hbl := Lib.hid (blE_zero hc).2.2
    have hd : (blE n [] != 0) = false := by rw [hc]; rfl
    clear hc
    go_wp2_with fail
    refine Calls.mono (spec_l21Others s k _ n [] _ (H.out.up (by repeat (first | exact Ext.refl _ | assumption | refine Ext.alloc ?_ _ | refine Ext.drew ?_ | refine Ext.drewN ?_ _ | refine Ext.setCell ?_ (by first | (simp; done) | (simp; omega) | omega) _ | refine Ext.trans ?_ (by assumption)))) (nilInts _) Hok.out) ?_
    rintro e w2 ⟨u, rfl, hx2, hu⟩
    have Hst0 : Hid (FcSt n w.heap.size 0 u w2) := Lib.hid (by
      obtain ⟨g, hg, ho⟩ := Own.of_owned hu
      exact FcSt.of_list ho (fun h0 => by have := (hg h0).2; omega) (by rw [outL_zero]; exact (othTo_nil _).symm))
    obtain ⟨Au, cu, rfl⟩ : ∃ A c, u = .slice A (outL n 0).length c := by obtain ⟨A, c, e, _⟩ := Hst0.out.ints.len; exact ⟨A, c, e⟩
    have hxw2 : Ext w w2 := (by repeat (first | exact Ext.refl _ | assumption | refine Ext.alloc ?_ _ | refine Ext.drew ?_ | refine Ext.drewN ?_ _ | refine Ext.setCell ?_ (by first | (simp; done) | (simp; omega) | omega) _ | refine Ext.trans ?_ (by assumption)))
    have Hb2 := Lib.hid (Hb1.out.ext hx2)
    clear hb0 hb1 hbg Hhb Hb1 hx2 hu
    have hb := Hb2.out; have hb0 := hb.at0; have hb1 := hb.at1; have hbg := hb.1; have Hhb := Lib.hid hb; clear hb
    go_wp2_with fail
    refine Calls.mono (spec_l21Contradict s k _ n (outL n 0) _ (H.out.up hxw2) Hst0.out.ints Hok.out Hbl.out) ?_
    rintro e w3 ⟨rfl, hx3⟩
    have Hcb : Hid (conB n (outL n 0) = !B (Sol n)) := Lib.hid (by rw [outL_zero]; exact conB_all n)
    rw [Hcb.out]
    have Hst1 := Lib.hid (Hst0.out.ext hx3)
    have hxw3 : Ext w w3 := (by repeat (first | exact Ext.refl _ | assumption | refine Ext.alloc ?_ _ | refine Ext.drew ?_ | refine Ext.drewN ?_ _ | refine Ext.setCell ?_ (by first | (simp; done) | (simp; omega) | omega) _ | refine Ext.trans ?_ (by assumption)))
    have Hb3 := Lib.hid (Hb2.out.ext hx3)
    by_cases hs : Sol n
    · have Hv := Lib.hid (fc_sol Hc.out hs)
      rw [B_true hs]
      clear hs
      go_wp2_with fail
      go_ret2
      rw [Hv.out.1, Hv.out.2]
      exact NewInts2.nil 4 (by repeat (first | exact Ext.refl _ | assumption | refine Ext.alloc ?_ _ | refine Ext.drew ?_ | refine Ext.drewN ?_ _ | refine Ext.setCell ?_ (by first | (simp; done) | (simp; omega) | omega) _ | refine Ext.trans ?_ (by assumption)))
    · have Hv := Lib.hid (fc_ok Hc.out hs)
      rw [B_false hs]
      clear hs hb0 hb1 hbg Hhb Hb2 Hst0 hx3
      obtain ⟨N, hN⟩ : ∃ N, N = allS n := ⟨_, rfl⟩
      have HN := Lib.hid hN
      clear hN
      go_wp2_with fail
      go_loopg [5, 6, 7] N (fun q u5 i u7 wr => ∃ t : Nat, t + q = N ∧ i = .int .i64 (kept n t).length ∧ (∃ A c, u5 = .slice A (outL n t).length c) ∧ Ext w wr ∧ Boxed wr w.heap.size [s, k] ∧ Hid (FcSt n w.heap.size t u5 wr))
      case atStart => exact ⟨0, by omega, rfl, ⟨_, _, rfl⟩, (by repeat (first | exact Ext.refl _ | assumption | refine Ext.alloc ?_ _ | refine Ext.drew ?_ | refine Ext.drewN ?_ _ | refine Ext.setCell ?_ (by first | (simp; done) | (simp; omega) | omega) _ | refine Ext.trans ?_ (by assumption))), Hb3.out, Hst1⟩
      case round =>
        obtain ⟨t, ht, rfl, ⟨A5, c5, rfl⟩, hxr, hnb, Hst⟩ := hrel
        have nb := hnb; have nb0 := nb.at0; have nb1 := nb.at1; have nbg := nb.1; have Hnb := Lib.hid nb; clear nb
        clear hnb
        have Hlen := Lib.hid (outL_len n t)
        have hsm := outL_small Hok.out t (by rw [← HN.out]; omega)
        by_cases hlt : t < N
        · have Hta := Lib.hid (show t < allS n by rw [← HN.out]; exact hlt)
          have hkl : (kept n t).length < (outL n t).length := by have h1 := Hlen.out; have h2 := Hta.out; omega
          have T1 : decide (((kept n t).length : Int) < ((outL n t).length : Int)) = true := decide_eq_true (by omega)
          have T2 : decide ((kept n t).length < (outL n t).length) = true := decide_eq_true hkl
          go_wp2_with fail
          refine Calls.mono (spec_l21Drop _ (outL n t) (kept n t).length _ Hst.out.ints hkl (by omega)) ?_
          rintro e w6 ⟨uv, g6, rfl, hx6, hg6, hu6⟩
          obtain ⟨A6, c6, rfl⟩ := hu6.len
          have Hu6 := Lib.hid hu6
          have hzr := hxr.size
          have Hg6 := Lib.hid (show 0 < ((outL n t).eraseIdx (kept n t).length).length → w.heap.size ≤ g6 from fun h0 => by have := hg6 h0; omega)
          have Hst6 := Lib.hid (Hst.out.ext hx6)
          have Hb6 := Lib.hid (Hnb.out.ext hx6)
          have hxw6 : Ext w w6 := (by repeat (first | exact Ext.refl _ | assumption | refine Ext.alloc ?_ _ | refine Ext.drew ?_ | refine Ext.drewN ?_ _ | refine Ext.setCell ?_ (by first | (simp; done) | (simp; omega) | omega) _ | refine Ext.trans ?_ (by assumption)))
          clear nb0 nb1 nbg Hnb hu6 hg6 hx6 Hst
          have nb := Hb6.out; have nb0 := nb.at0; have nb1 := nb.at1; have nbg := nb.1; have Hnb := Lib.hid nb; clear nb
          go_wp2_with fail
          refine Calls.mono (spec_l21Contradict s k _ n ((outL n t).eraseIdx (kept n t).length) _ (H.out.up hxw6) (Ints.of_own Hu6.out) Hok.out Hbl.out) ?_
          rintro e w7 ⟨rfl, hx7⟩
          have hxw7 : Ext w w7 := (by repeat (first | exact Ext.refl _ | assumption | refine Ext.alloc ?_ _ | refine Ext.drew ?_ | refine Ext.drewN ?_ _ | refine Ext.setCell ?_ (by first | (simp; done) | (simp; omega) | omega) _ | refine Ext.trans ?_ (by assumption)))
          have Hb7 := Lib.hid (Hnb.out.ext hx7)
          cases hcj : conB n ((outL n t).eraseIdx (kept n t).length)
          · have He := Lib.hid (outL_no Hta.out hcj)
            have Hst7 := Lib.hid (Hst6.out.ext hx7)
            clear hcj
            go_wp2_with fail
            go_roundg (N - (t + 1))
            case measure => omega
            case rel => exact ⟨t + 1, by omega, by rw [He.out.2]; go_num, ⟨_, _, by rw [He.out.1]⟩, (by repeat (first | exact Ext.refl _ | assumption | refine Ext.alloc ?_ _ | refine Ext.drew ?_ | refine Ext.drewN ?_ _ | refine Ext.setCell ?_ (by first | (simp; done) | (simp; omega) | omega) _ | refine Ext.trans ?_ (by assumption))), Hb7.out, Lib.hid (by unfold FcSt; rw [He.out.1]; exact Hst7.out)⟩
          · have He := Lib.hid (outL_yes Hta.out hcj)
            have Hst7 := Lib.hid (FcSt.of_list (n := n) (Hu6.out.ext hx7) Hg6.out He.out.1)
            clear hcj
            go_wp2_with fail
            go_roundg (N - (t + 1))
            case measure => omega
            case rel => exact ⟨t + 1, by omega, by rw [He.out.2], ⟨_, _, by rw [He.out.1]⟩, (by repeat (first | exact Ext.refl _ | assumption | refine Ext.alloc ?_ _ | refine Ext.drew ?_ | refine Ext.drewN ?_ _ | refine Ext.setCell ?_ (by first | (simp; done) | (simp; omega) | omega) _ | refine Ext.trans ?_ (by assumption))), Hb7.out, Hst7⟩
        · obtain rfl : t = N := by omega
          have T1 : decide (((kept n t).length : Int) < ((outL n t).length : Int)) = false := decide_eq_false (by have h1 := Hlen.out; have h2 := HN.out; omega)
          have T2 : decide ((kept n t).length < (outL n t).length) = false := decide_eq_false (by have h1 := Hlen.out; have h2 := HN.out; omega)
          have HN2 : Hid (t = allS n) := Lib.hid HN.out
          go_wp2_with fail
          go_ret2
          obtain ⟨g, h1, h2⟩ := Hst.out
          rw [HN2.out] at h1 h2
          rw [Hv.out.1, Hv.out.2, HN2.out]
          exact ⟨_, g, rfl, (by repeat (first | exact Ext.refl _ | assumption | refine Ext.alloc ?_ _ | refine Ext.drew ?_ | refine Ext.drewN ?_ _ | refine Ext.setCell ?_ (by first | (simp; done) | (simp; omega) | omega) _ | refine Ext.trans ?_ (by assumption))), h2, h1⟩
  · have Hc := Lib.hid (fc_code hc)
    have hd : (blE n [] != 0) = true := by simp [hc]
    clear hc
    go_wp2_with fail
    go_ret2
    rw [Hc.out.1, Hc.out.2]
    exact NewInts2.nil _ (by repeat (first | exact Ext.refl _ | assumption | refine Ext.alloc ?_ _ | refine Ext.drew ?_ | refine Ext.drewN ?_ _ | refine Ext.setCell ?_ (by first | (simp; done) | (simp; omega) | omega) _ | refine Ext.trans ?_ (by assumption)))
end Go.Proofs.Ytfociflfeednfaa
