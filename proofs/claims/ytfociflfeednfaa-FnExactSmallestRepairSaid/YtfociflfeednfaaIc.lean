/- Contracts: IsConflict. -/
import Derived.Test.YtfociflfeednfaaDe
import Derived.Test.YtfociflfeednfaaCf
import Derived.Deep.RegionLaw
namespace Go.Proofs.Ytfociflfeednfaa
set_option linter.unusedVariables false
set_option linter.unusedSimpArgs false
open Go.RowKit
attribute [local go_sem] cell_onto

theorem Ints.of_own {w : World} {g : Nat} {v : Value} {l : List Int} (h : Own w g 1 v l.length (intCell l)) : Ints w 0 w.heap.size v l := h.row (fun h0 => ⟨Nat.zero_le _, h.lt h0⟩)
def ConfTo (n : Net) (l : List Int) (j : Nat) : Prop := conB n l = true ∧ ∀ i, i < j → conB n (l.eraseIdx i) = false
theorem ConfTo.step {n : Net} {l : List Int} {j : Nat} (h : ConfTo n l j) (h2 : conB n (l.eraseIdx j) = false) : ConfTo n l (j + 1) :=
  ⟨h.1, fun i hi => by
    by_cases e : i = j
    · subst e; exact h2
    · exact h.2 i (by omega)⟩
theorem stm_len {n : Net} {l : List Int} (h : NetOk n) (h2 : StmOk n l) : l.length ≤ 1048576 := by
  have h3 : ∀ i, i < l.length → (i : Int) ≤ inAt l i := by
    intro i
    induction i with
    | zero => intro hi; have := (h2 0 hi).1.1; omega
    | succ i ih =>
      intro hi
      have h4 := ih (by omega)
      have h5 := (h2 (i + 1) hi).2 (by omega)
      simp at h5
      omega
  rcases Nat.eq_zero_or_pos l.length with e | e
  · omega
  · have h4 := h3 (l.length - 1) (by omega)
    have h5 := (h2 (l.length - 1) (by omega)).1.2
    have h6 := h.1
    have h7 := h.2.1
    omega

set_option maxHeartbeats 4000000 in
theorem impl_IsConflict (s k v : Value) (n : Net) (l : List Int) (w : World) (h : NetIn w s k n) (hl : Ints w 0 w.heap.size v l) :
    Calls Try.prog 11 #[.agg #[s, k], v] w (RetX (.tuple #[.bool (confV n l), .int .i64 (blE n l)]) w) := by
  obtain ⟨A, c, rfl, hn, hc⟩ := hl.len
  have H := Lib.hid h
  have Hl := Lib.hid hl
  clear h hl
  go_enter Try.func11, Try.ntmps11
  go_wp2_with fail
  refine Calls.mono (impl_checkBlame s k _ n l _ (H.out.up (by repeat (first | exact Ext.refl _ | assumption | refine Ext.alloc ?_ _ | refine Ext.drew ?_ | refine Ext.drewN ?_ _ | refine Ext.setCell ?_ (by first | (simp; done) | (simp; omega) | omega) _ | refine Ext.trans ?_ (by assumption)))) (Hl.out.up (by repeat (first | exact Ext.refl _ | assumption | refine Ext.alloc ?_ _ | refine Ext.drew ?_ | refine Ext.drewN ?_ _ | refine Ext.setCell ?_ (by first | (simp; done) | (simp; omega) | omega) _ | refine Ext.trans ?_ (by assumption))))) ?_
  rintro e w1 ⟨rfl, hx1⟩
  have hb := (Boxed.new w [s, k] 33).ext hx1; have hb0 := hb.at0; have hb1 := hb.at1; have hbg := hb.1; have Hhb := Lib.hid hb; clear hb
  have hx : Ext w w1 := (by repeat (first | exact Ext.refl _ | assumption | refine Ext.alloc ?_ _ | refine Ext.drew ?_ | refine Ext.drewN ?_ _ | refine Ext.setCell ?_ (by first | (simp; done) | (simp; omega) | omega) _ | refine Ext.trans ?_ (by assumption)))
  clear hx1
  by_cases hc : blE n l = 0
  · have Hc := Lib.hid hc
    have Hok := Lib.hid (blE_zero hc).1
    have hll := stm_len (blE_zero hc).1 (blE_zero hc).2.1
    have hd : (blE n l != 0) = false := by rw [hc]; rfl
    have Hb1 : Hid (Boxed w1 w.heap.size [s, k]) := Lib.hid Hhb.out
    clear hc
    go_wp2_with fail
    refine Calls.mono (impl_contradict s k _ n l _ (H.out.up (by repeat (first | exact Ext.refl _ | assumption | refine Ext.alloc ?_ _ | refine Ext.drew ?_ | refine Ext.drewN ?_ _ | refine Ext.setCell ?_ (by first | (simp; done) | (simp; omega) | omega) _ | refine Ext.trans ?_ (by assumption)))) (Hl.out.up (by repeat (first | exact Ext.refl _ | assumption | refine Ext.alloc ?_ _ | refine Ext.drew ?_ | refine Ext.drewN ?_ _ | refine Ext.setCell ?_ (by first | (simp; done) | (simp; omega) | omega) _ | refine Ext.trans ?_ (by assumption)))) Hok.out) ?_
    rintro e w2 ⟨rfl, hx2⟩
    have hxw2 : Ext w w2 := (by repeat (first | exact Ext.refl _ | assumption | refine Ext.alloc ?_ _ | refine Ext.drew ?_ | refine Ext.drewN ?_ _ | refine Ext.setCell ?_ (by first | (simp; done) | (simp; omega) | omega) _ | refine Ext.trans ?_ (by assumption)))
    cases hcb : conB n l
    · have Hv := Lib.hid ((confV_ok Hc.out).trans (B_false (fun hh => by have := hh.1; rw [hcb] at this; cases this)))
      clear hcb
      go_wp2_with fail
      go_ret2
      exact ⟨by rw [Hv.out, Hc.out]; rfl, (by repeat (first | exact Ext.refl _ | assumption | refine Ext.alloc ?_ _ | refine Ext.drew ?_ | refine Ext.drewN ?_ _ | refine Ext.setCell ?_ (by first | (simp; done) | (simp; omega) | omega) _ | refine Ext.trans ?_ (by assumption)))⟩
    · have Hcb := Lib.hid hcb
      have Hb2 := Lib.hid (Hb1.out.ext hx2)
      clear hcb hb0 hb1 hbg Hhb Hb1
      go_wp2_with fail
      go_loopg [7, 20] l.length (fun q u7 i wr => ∃ j : Nat, j + q = l.length ∧ i = .int .i64 j ∧ Ext w wr ∧ Boxed wr w.heap.size [s, k] ∧ Hid (ConfTo n l j))
      case atStart => exact ⟨0, by omega, rfl, (by repeat (first | exact Ext.refl _ | assumption | refine Ext.alloc ?_ _ | refine Ext.drew ?_ | refine Ext.drewN ?_ _ | refine Ext.setCell ?_ (by first | (simp; done) | (simp; omega) | omega) _ | refine Ext.trans ?_ (by assumption))), Hb2.out, Lib.hid ⟨Hcb.out, fun i hi => absurd hi (by omega)⟩⟩
      case round =>
        obtain ⟨j, hj, rfl, hxr, hnb, Hto⟩ := hrel
        have nb := hnb; have nb0 := nb.at0; have nb1 := nb.at1; have nbg := nb.1; have Hnb := Lib.hid nb; clear nb
        clear hnb
        by_cases hlt : j < l.length
        · go_wp2_with fail
          go_region_law (first
            | (go_simp; go_at_call 32; refine Calls.mono (impl_lessOne _ l j _ (Hl.out.up (by repeat (first | exact Ext.refl _ | assumption | refine Ext.alloc ?_ _ | refine Ext.drew ?_ | refine Ext.drewN ?_ _ | refine Ext.setCell ?_ (by first | (simp; done) | (simp; omega) | omega) _ | refine Ext.trans ?_ (by assumption)))) hlt hll) ?_; rintro e wc ⟨uv, g, rfl, hxc, hgc, huc⟩; have Huc := Lib.hid (Ints.of_own huc); have hxwc : Ext wr wc := (by repeat (first | exact Ext.refl _ | assumption | refine Ext.alloc ?_ _ | refine Ext.drew ?_ | refine Ext.drewN ?_ _ | refine Ext.setCell ?_ (by first | (simp; done) | (simp; omega) | omega) _ | refine Ext.trans ?_ (by assumption))); have cb := Hnb.out.ext hxwc; have cb0 := cb.at0; have cb1 := cb.at1; have cbg := cb.1; have Hcb := Lib.hid cb; clear cb; clear hgc huc)
            | (go_simp; go_at_call 31; refine Calls.mono (impl_contradict s k uv n (l.eraseIdx j) _ (H.out.up (by repeat (first | exact Ext.refl _ | assumption | refine Ext.alloc ?_ _ | refine Ext.drew ?_ | refine Ext.drewN ?_ _ | refine Ext.setCell ?_ (by first | (simp; done) | (simp; omega) | omega) _ | refine Ext.trans ?_ (by assumption)))) (Huc.out.up (by repeat (first | exact Ext.refl _ | assumption | refine Ext.alloc ?_ _ | refine Ext.drew ?_ | refine Ext.drewN ?_ _ | refine Ext.setCell ?_ (by first | (simp; done) | (simp; omega) | omega) _ | refine Ext.trans ?_ (by assumption)))) Hok.out) ?_; rintro e w3 ⟨rfl, hxb⟩))
          all_goals
            have hx23 : Ext wr w3 := (by repeat (first | exact Ext.refl _ | assumption | refine Ext.alloc ?_ _ | refine Ext.drew ?_ | refine Ext.drewN ?_ _ | refine Ext.setCell ?_ (by first | (simp; done) | (simp; omega) | omega) _ | refine Ext.trans ?_ (by assumption)))
            have hxw3 : Ext w w3 := hxr.trans hx23
            have Hb3 := Lib.hid (Hnb.out.ext hx23)
            cases hcj : conB n (l.eraseIdx j)
            · have Hcj := Lib.hid hcj
              clear hcj
              go_wp2_with fail
              go_roundg (l.length - (j + 1))
              case measure => omega
              case rel => exact ⟨j + 1, by omega, by go_num, (by repeat (first | exact Ext.refl _ | assumption | refine Ext.alloc ?_ _ | refine Ext.drew ?_ | refine Ext.drewN ?_ _ | refine Ext.setCell ?_ (by first | (simp; done) | (simp; omega) | omega) _ | refine Ext.trans ?_ (by assumption))), Hb3.out.ext (by repeat (first | exact Ext.refl _ | assumption | refine Ext.alloc ?_ _ | refine Ext.drew ?_ | refine Ext.drewN ?_ _ | refine Ext.setCell ?_ (by first | (simp; done) | (simp; omega) | omega) _ | refine Ext.trans ?_ (by assumption))), Lib.hid (Hto.out.step Hcj.out)⟩
            · have Hv := Lib.hid ((confV_ok Hc.out).trans (B_false (fun hh => by have := hh.2 j hlt; rw [hcj] at this; cases this)))
              clear hcj
              go_wp2_with fail
              go_ret2
              exact ⟨by rw [Hv.out, Hc.out]; rfl, (by repeat (first | exact Ext.refl _ | assumption | refine Ext.alloc ?_ _ | refine Ext.drew ?_ | refine Ext.drewN ?_ _ | refine Ext.setCell ?_ (by first | (simp; done) | (simp; omega) | omega) _ | refine Ext.trans ?_ (by assumption)))⟩
        · obtain rfl : j = l.length := by omega
          have Hv := Lib.hid ((confV_ok Hc.out).trans (B_true Hto.out))
          go_wp2_with fail
          go_ret2
          exact ⟨by rw [Hv.out, Hc.out]; rfl, (by repeat (first | exact Ext.refl _ | assumption | refine Ext.alloc ?_ _ | refine Ext.drew ?_ | refine Ext.drewN ?_ _ | refine Ext.setCell ?_ (by first | (simp; done) | (simp; omega) | omega) _ | refine Ext.trans ?_ (by assumption)))⟩
  · have Hc := Lib.hid hc
    have hd : (blE n l != 0) = true := by simp [hc]
    clear hc
    go_wp2_with fail
    go_ret2
    exact ⟨by rw [confV_no Hc.out]; rfl, (by repeat (first | exact Ext.refl _ | assumption | refine Ext.alloc ?_ _ | refine Ext.drew ?_ | refine Ext.drewN ?_ _ | refine Ext.setCell ?_ (by first | (simp; done) | (simp; omega) | omega) _ | refine Ext.trans ?_ (by assumption)))⟩
set_option maxHeartbeats 4000000 in
theorem spec_IsConflict (s k v : Value) (n : Net) (l : List Int) (w : World) (h : NetIn w s k n) (hl : Ints w 0 w.heap.size v l) :
    Calls Try.prog 8 #[.agg #[s, k], v] w (RetX (.tuple #[.bool (confV n l), .int .i64 (blE n l)]) w) := by
  obtain ⟨A, c, rfl, hn, hc⟩ := hl.len
  have H := Lib.hid h
  have Hl := Lib.hid hl
  clear h hl
  go_enter Try.func8, Try.ntmps8
  go_wp2_with fail
  refine Calls.mono (spec_l21Code s k _ n l _ (H.out.up (by repeat (first | exact Ext.refl _ | assumption | refine Ext.alloc ?_ _ | refine Ext.drew ?_ | refine Ext.drewN ?_ _ | refine Ext.setCell ?_ (by first | (simp; done) | (simp; omega) | omega) _ | refine Ext.trans ?_ (by assumption)))) (Hl.out.up (by repeat (first | exact Ext.refl _ | assumption | refine Ext.alloc ?_ _ | refine Ext.drew ?_ | refine Ext.drewN ?_ _ | refine Ext.setCell ?_ (by first | (simp; done) | (simp; omega) | omega) _ | refine Ext.trans ?_ (by assumption))))) ?_
  rintro e w1 ⟨rfl, hx1⟩
  have hb := (Boxed.new w [s, k] 33).ext hx1; have hb0 := hb.at0; have hb1 := hb.at1; have hbg := hb.1; have Hhb := Lib.hid hb; clear hb
  have hx : Ext w w1 := (by repeat (first | exact Ext.refl _ | assumption | refine Ext.alloc ?_ _ | refine Ext.drew ?_ | refine Ext.drewN ?_ _ | refine Ext.setCell ?_ (by first | (simp; done) | (simp; omega) | omega) _ | refine Ext.trans ?_ (by assumption)))
  clear hx1
  by_cases hc : blE n l = 0
  · have Hc := Lib.hid hc
    have Hok := Lib.hid (blE_zero hc).1
    have Hbl := Lib.hid (blE_zero hc).2.2
    have hll := stm_len (blE_zero hc).1 (blE_zero hc).2.1
    have hd : (blE n l != 0) = false := by rw [hc]; rfl
    have Hb1 : Hid (Boxed w1 w.heap.size [s, k]) := Lib.hid Hhb.out
    clear hc
    go_wp2_with fail
    refine Calls.mono (spec_l21Contradict s k _ n l _ (H.out.up (by repeat (first | exact Ext.refl _ | assumption | refine Ext.alloc ?_ _ | refine Ext.drew ?_ | refine Ext.drewN ?_ _ | refine Ext.setCell ?_ (by first | (simp; done) | (simp; omega) | omega) _ | refine Ext.trans ?_ (by assumption)))) (Hl.out.up (by repeat (first | exact Ext.refl _ | assumption | refine Ext.alloc ?_ _ | refine Ext.drew ?_ | refine Ext.drewN ?_ _ | refine Ext.setCell ?_ (by first | (simp; done) | (simp; omega) | omega) _ | refine Ext.trans ?_ (by assumption)))) Hok.out Hbl.out) ?_
    rintro e w2 ⟨rfl, hx2⟩
    have hxw2 : Ext w w2 := (by repeat (first | exact Ext.refl _ | assumption | refine Ext.alloc ?_ _ | refine Ext.drew ?_ | refine Ext.drewN ?_ _ | refine Ext.setCell ?_ (by first | (simp; done) | (simp; omega) | omega) _ | refine Ext.trans ?_ (by assumption)))
    have Hb2 := Lib.hid (Hb1.out.ext hx2)
    have H0 : Hid (conB n l = B (ConfTo n l 0)) := Lib.hid (B_eq ⟨fun h => ⟨h, fun i hi => absurd hi (by omega)⟩, fun h => h.1⟩)
    clear hb0 hb1 hbg Hhb Hb1
    go_wp2_with fail
    go_loopg [7, 8] l.length (fun q u7 i wr => ∃ j : Nat, j + q = l.length ∧ i = .int .i64 j ∧ u7 = .bool (B (ConfTo n l j)) ∧ Ext w wr ∧ Boxed wr w.heap.size [s, k])
    case atStart => exact ⟨0, by omega, rfl, by rw [H0.out], (by repeat (first | exact Ext.refl _ | assumption | refine Ext.alloc ?_ _ | refine Ext.drew ?_ | refine Ext.drewN ?_ _ | refine Ext.setCell ?_ (by first | (simp; done) | (simp; omega) | omega) _ | refine Ext.trans ?_ (by assumption))), Hb2.out⟩
    case round =>
      obtain ⟨j, hj, rfl, rfl, hxr, hnb⟩ := hrel
      have nb := hnb; have nb0 := nb.at0; have nb1 := nb.at1; have nbg := nb.1; have Hnb := Lib.hid nb; clear nb
      clear hnb
      by_cases hlt : j < l.length
      · by_cases ht : ConfTo n l j
        · have Ht := Lib.hid ht
          rw [B_true ht]
          clear ht
          go_wp2_with fail
          go_region_law (first
            | (go_simp; go_at_call 27; refine Calls.mono (spec_l21Drop _ l j _ (Hl.out.up (by repeat (first | exact Ext.refl _ | assumption | refine Ext.alloc ?_ _ | refine Ext.drew ?_ | refine Ext.drewN ?_ _ | refine Ext.setCell ?_ (by first | (simp; done) | (simp; omega) | omega) _ | refine Ext.trans ?_ (by assumption)))) hlt hll) ?_; rintro e wc ⟨uv, g, rfl, hxc, hgc, huc⟩; have Huc := Lib.hid (Ints.of_own huc); have hxwc : Ext wr wc := (by repeat (first | exact Ext.refl _ | assumption | refine Ext.alloc ?_ _ | refine Ext.drew ?_ | refine Ext.drewN ?_ _ | refine Ext.setCell ?_ (by first | (simp; done) | (simp; omega) | omega) _ | refine Ext.trans ?_ (by assumption))); have cb := Hnb.out.ext hxwc; have cb0 := cb.at0; have cb1 := cb.at1; have cbg := cb.1; have Hcb := Lib.hid cb; clear cb; clear hgc huc)
            | (go_simp; go_at_call 26; refine Calls.mono (spec_l21Contradict s k uv n (l.eraseIdx j) _ (H.out.up (by repeat (first | exact Ext.refl _ | assumption | refine Ext.alloc ?_ _ | refine Ext.drew ?_ | refine Ext.drewN ?_ _ | refine Ext.setCell ?_ (by first | (simp; done) | (simp; omega) | omega) _ | refine Ext.trans ?_ (by assumption)))) (Huc.out.up (by repeat (first | exact Ext.refl _ | assumption | refine Ext.alloc ?_ _ | refine Ext.drew ?_ | refine Ext.drewN ?_ _ | refine Ext.setCell ?_ (by first | (simp; done) | (simp; omega) | omega) _ | refine Ext.trans ?_ (by assumption)))) Hok.out Hbl.out) ?_; rintro e w3 ⟨rfl, hxb⟩))
          all_goals
            have hx23 : Ext wr w3 := (by repeat (first | exact Ext.refl _ | assumption | refine Ext.alloc ?_ _ | refine Ext.drew ?_ | refine Ext.drewN ?_ _ | refine Ext.setCell ?_ (by first | (simp; done) | (simp; omega) | omega) _ | refine Ext.trans ?_ (by assumption)))
            have hxw3 : Ext w w3 := hxr.trans hx23
            have Hb3 := Lib.hid (Hnb.out.ext hx23)
            cases hcj : conB n (l.eraseIdx j)
            · have Hcj := Lib.hid (B_true (Ht.out.step hcj))
              clear hcj
              go_wp2_with fail
              go_roundg (l.length - (j + 1))
              case measure => omega
              case rel => exact ⟨j + 1, by omega, by go_num, by rw [Hcj.out], (by repeat (first | exact Ext.refl _ | assumption | refine Ext.alloc ?_ _ | refine Ext.drew ?_ | refine Ext.drewN ?_ _ | refine Ext.setCell ?_ (by first | (simp; done) | (simp; omega) | omega) _ | refine Ext.trans ?_ (by assumption))), Hb3.out.ext (by repeat (first | exact Ext.refl _ | assumption | refine Ext.alloc ?_ _ | refine Ext.drew ?_ | refine Ext.drewN ?_ _ | refine Ext.setCell ?_ (by first | (simp; done) | (simp; omega) | omega) _ | refine Ext.trans ?_ (by assumption)))⟩
            · have Hcj := Lib.hid (B_false (show ¬ ConfTo n l (j + 1) from fun hh => by have := hh.2 j (by omega); rw [hcj] at this; cases this))
              clear hcj
              go_wp2_with fail
              go_roundg (l.length - (j + 1))
              case measure => omega
              case rel => exact ⟨j + 1, by omega, by go_num, by rw [Hcj.out], (by repeat (first | exact Ext.refl _ | assumption | refine Ext.alloc ?_ _ | refine Ext.drew ?_ | refine Ext.drewN ?_ _ | refine Ext.setCell ?_ (by first | (simp; done) | (simp; omega) | omega) _ | refine Ext.trans ?_ (by assumption))), Hb3.out.ext (by repeat (first | exact Ext.refl _ | assumption | refine Ext.alloc ?_ _ | refine Ext.drew ?_ | refine Ext.drewN ?_ _ | refine Ext.setCell ?_ (by first | (simp; done) | (simp; omega) | omega) _ | refine Ext.trans ?_ (by assumption)))⟩
        · have Hcj := Lib.hid (B_false (show ¬ ConfTo n l (j + 1) from fun hh => ht ⟨hh.1, fun i hi => hh.2 i (by omega)⟩))
          rw [B_false ht]
          clear ht
          go_wp2_with fail
          (refine wp_region_onto prog_mixed (by kernel_rfl) ?_; (repeat (go_big_quiet_step ((fail)))); refine onto_end ?_; intro w3 hx3)
          have hxq : Ext wr w3 := (by repeat (first | exact Ext.refl _ | assumption | refine Ext.alloc ?_ _ | refine Ext.drew ?_ | refine Ext.drewN ?_ _ | refine Ext.setCell ?_ (by first | (simp; done) | (simp; omega) | omega) _ | refine Ext.trans ?_ (by assumption)))
          go_wp2_with fail
          go_roundg (l.length - (j + 1))
          case measure => omega
          case rel => exact ⟨j + 1, by omega, by go_num, by rw [Hcj.out], (by repeat (first | exact Ext.refl _ | assumption | refine Ext.alloc ?_ _ | refine Ext.drew ?_ | refine Ext.drewN ?_ _ | refine Ext.setCell ?_ (by first | (simp; done) | (simp; omega) | omega) _ | refine Ext.trans ?_ (by assumption))), Hnb.out.ext (by repeat (first | exact Ext.refl _ | assumption | refine Ext.alloc ?_ _ | refine Ext.drew ?_ | refine Ext.drewN ?_ _ | refine Ext.setCell ?_ (by first | (simp; done) | (simp; omega) | omega) _ | refine Ext.trans ?_ (by assumption)))⟩
      · obtain rfl : j = l.length := by omega
        have Hv := Lib.hid ((confV_ok Hc.out).trans (B_congr (q := ConfTo n l l.length) Iff.rfl))
        go_wp2_with fail
        go_ret2
        exact ⟨by rw [Hv.out, Hc.out]; rfl, (by repeat (first | exact Ext.refl _ | assumption | refine Ext.alloc ?_ _ | refine Ext.drew ?_ | refine Ext.drewN ?_ _ | refine Ext.setCell ?_ (by first | (simp; done) | (simp; omega) | omega) _ | refine Ext.trans ?_ (by assumption)))⟩
  · have Hc := Lib.hid hc
    have hd : (blE n l != 0) = true := by simp [hc]
    clear hc
    go_wp2_with fail
    go_ret2
    exact ⟨by rw [confV_no Hc.out]; rfl, (by repeat (first | exact Ext.refl _ | assumption | refine Ext.alloc ?_ _ | refine Ext.drew ?_ | refine Ext.drewN ?_ _ | refine Ext.setCell ?_ (by first | (simp; done) | (simp; omega) | omega) _ | refine Ext.trans ?_ (by assumption)))⟩
end Go.Proofs.Ytfociflfeednfaa
