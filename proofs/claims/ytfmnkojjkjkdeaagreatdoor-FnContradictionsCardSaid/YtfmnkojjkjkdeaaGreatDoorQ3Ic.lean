/- Texts merged (a claim holds at most sixty files): Ic, Di, Fc, Ds. -/
import Derived.Test.YtfmnkojjkjkdeaaGreatDoorQ3De
import Derived.Test.YtfmnkojjkjkdeaaGreatDoorQ3Ha
import Derived.Deep.RegionLaw
import Derived.Test.YtfmnkojjkjkdeaaGreatDoorQ3K
import Derived.Test.YtfmnkojjkjkdeaaGreatDoorQ3Yc
import Derived.Test.YtfmnkojjkjkdeaaGreatDoorQ3Do
import Derived.Test.YtfmnkojjkjkdeaaGreatDoorQ3In
/- Contracts: IsConflict. -/
namespace Go.Proofs.YtfmnkojjkjkdeaaGreatDoor
set_option linter.unusedVariables false
set_option linter.unusedSimpArgs false
open Go.RowKit
attribute [local go_sem] cell_onto

theorem Ints.of_own {w : World} {g : Nat} {v : Value} {l : List Int} (h : Own w g 1 v l.length (intCell l)) : Ints w 0 w.heap.size v l := h.row (fun h0 => ⟨Nat.zero_le _, h.lt h0⟩)
def ConfTo (n : Net) (l : List Int) (j : Nat) : Prop := conB n l = true ∧ ∀ i, i < j → conB n (l.eraseIdx i) = false
theorem ConfTo.step {n : Net} {l : List Int} {j : Nat} (h : ConfTo n l j) (h2 : conB n (l.eraseIdx j) = false) : ConfTo n l (j + 1) :=
  ⟨h.1, fun i hi => by
    by_cases e : i = j
    · subst e; exact h2
    · exact h.2 i (by omega)⟩
theorem stm_len {n : Net} {l : List Int} (h : NetOk n) (h2 : StmOk n l) : l.length ≤ 1048576 := by
  have h3 : ∀ i, i < l.length → (i : Int) ≤ inAt l i := by
    intro i
    induction i with
    | zero => intro hi; have := (h2 0 hi).1.1; omega
    | succ i ih =>
      intro hi
      have h4 := ih (by omega)
      have h5 := (h2 (i + 1) hi).2 (by omega)
      simp at h5
      omega
  rcases Nat.eq_zero_or_pos l.length with e | e
  · omega
  · have h4 := h3 (l.length - 1) (by omega)
    have h5 := (h2 (l.length - 1) (by omega)).1.2
    have h6 := h.1
    have h7 := h.2.1
    omega

set_option maxHeartbeats 4000000 in
theorem impl_IsConflict (s k v : Value) (n : Net) (l : List Int) (w : World) (h : NetIn w s k n) (hl : Ints w 0 w.heap.size v l) :
    Calls Tryz.prog 9 #[.agg #[s, k], v] w (RetX (.tuple #[.bool (confV n l), .int .i64 (blE n l)]) w) := by
  obtain ⟨A, c, rfl, hn, hc⟩ := hl.len
  have H := Lib.hid h
  have Hl := Lib.hid hl
  clear h hl
  go_enter Tryz.func9, Tryz.ntmps9
  go_wp2_with fail
  refine Calls.mono (impl_checkBlame s k _ n l _ (H.out.up (by repeat (first | exact Ext.refl _ | assumption | refine Ext.alloc ?_ _ | refine Ext.drew ?_ | refine Ext.drewN ?_ _ | refine Ext.setCell ?_ (by first | (simp; done) | (simp; omega) | omega) _ | refine Ext.trans ?_ (by assumption)))) (Hl.out.up (by repeat (first | exact Ext.refl _ | assumption | refine Ext.alloc ?_ _ | refine Ext.drew ?_ | refine Ext.drewN ?_ _ | refine Ext.setCell ?_ (by first | (simp; done) | (simp; omega) | omega) _ | refine Ext.trans ?_ (by assumption))))) ?_
  rintro e w1 ⟨rfl, hx1⟩
  have hb := (Boxed.new w [s, k] 27).ext hx1; have hb0 := hb.at0; have hb1 := hb.at1; have hbg := hb.1; have Hhb := Lib.hid hb; clear hb
  have hx : Ext w w1 := (by repeat (first | exact Ext.refl _ | assumption | refine Ext.alloc ?_ _ | refine Ext.drew ?_ | refine Ext.drewN ?_ _ | refine Ext.setCell ?_ (by first | (simp; done) | (simp; omega) | omega) _ | refine Ext.trans ?_ (by assumption)))
  clear hx1
  by_cases hc : blE n l = 0
  · have Hc := Lib.hid hc
    have Hok := Lib.hid (blE_zero hc).1
    have hll := stm_len (blE_zero hc).1 (blE_zero hc).2.1
    have hd : (blE n l != 0) = false := by rw [hc]; rfl
    have Hb1 : Hid (Boxed w1 w.heap.size [s, k]) := Lib.hid Hhb.out
    clear hc
    go_wp2_with fail
    refine Calls.mono (impl_contradict s k _ n l _ (H.out.up (by repeat (first | exact Ext.refl _ | assumption | refine Ext.alloc ?_ _ | refine Ext.drew ?_ | refine Ext.drewN ?_ _ | refine Ext.setCell ?_ (by first | (simp; done) | (simp; omega) | omega) _ | refine Ext.trans ?_ (by assumption)))) (Hl.out.up (by repeat (first | exact Ext.refl _ | assumption | refine Ext.alloc ?_ _ | refine Ext.drew ?_ | refine Ext.drewN ?_ _ | refine Ext.setCell ?_ (by first | (simp; done) | (simp; omega) | omega) _ | refine Ext.trans ?_ (by assumption)))) Hok.out) ?_
    rintro e w2 ⟨rfl, hx2⟩
    have hxw2 : Ext w w2 := (by repeat (first | exact Ext.refl _ | assumption | refine Ext.alloc ?_ _ | refine Ext.drew ?_ | refine Ext.drewN ?_ _ | refine Ext.setCell ?_ (by first | (simp; done) | (simp; omega) | omega) _ | refine Ext.trans ?_ (by assumption)))
    cases hcb : conB n l
    · have Hv := Lib.hid ((confV_ok Hc.out).trans (B_false (fun hh => by have := hh.1; rw [hcb] at this; cases this)))
      clear hcb
      go_wp2_with fail
      go_ret2
      exact ⟨by rw [Hv.out, Hc.out]; rfl, (by repeat (first | exact Ext.refl _ | assumption | refine Ext.alloc ?_ _ | refine Ext.drew ?_ | refine Ext.drewN ?_ _ | refine Ext.setCell ?_ (by first | (simp; done) | (simp; omega) | omega) _ | refine Ext.trans ?_ (by assumption)))⟩
    · have Hcb := Lib.hid hcb
      have Hb2 := Lib.hid (Hb1.out.ext hx2)
      clear hcb hb0 hb1 hbg Hhb Hb1
      go_wp2_with fail
      go_loopg [7, 20] l.length (fun q u7 i wr => ∃ j : Nat, j + q = l.length ∧ i = .int .i64 j ∧ Ext w wr ∧ Boxed wr w.heap.size [s, k] ∧ Hid (ConfTo n l j))
      case atStart => exact ⟨0, by omega, rfl, (by repeat (first | exact Ext.refl _ | assumption | refine Ext.alloc ?_ _ | refine Ext.drew ?_ | refine Ext.drewN ?_ _ | refine Ext.setCell ?_ (by first | (simp; done) | (simp; omega) | omega) _ | refine Ext.trans ?_ (by assumption))), Hb2.out, Lib.hid ⟨Hcb.out, fun i hi => absurd hi (by omega)⟩⟩
      case round =>
        obtain ⟨j, hj, rfl, hxr, hnb, Hto⟩ := hrel
        have nb := hnb; have nb0 := nb.at0; have nb1 := nb.at1; have nbg := nb.1; have Hnb := Lib.hid nb; clear nb
        clear hnb
        by_cases hlt : j < l.length
        · go_wp2_with fail
          go_region_law (first
            | (go_simp; go_at_call 58; refine Calls.mono (impl_lessOne _ l j _ (Hl.out.up (by repeat (first | exact Ext.refl _ | assumption | refine Ext.alloc ?_ _ | refine Ext.drew ?_ | refine Ext.drewN ?_ _ | refine Ext.setCell ?_ (by first | (simp; done) | (simp; omega) | omega) _ | refine Ext.trans ?_ (by assumption)))) hlt hll) ?_; rintro e wc ⟨uv, g, rfl, hxc, hgc, huc⟩; have Huc := Lib.hid (Ints.of_own huc); have hxwc : Ext wr wc := (by repeat (first | exact Ext.refl _ | assumption | refine Ext.alloc ?_ _ | refine Ext.drew ?_ | refine Ext.drewN ?_ _ | refine Ext.setCell ?_ (by first | (simp; done) | (simp; omega) | omega) _ | refine Ext.trans ?_ (by assumption))); have cb := Hnb.out.ext hxwc; have cb0 := cb.at0; have cb1 := cb.at1; have cbg := cb.1; have Hcb := Lib.hid cb; clear cb; clear hgc huc)
            | (go_simp; go_at_call 57; refine Calls.mono (impl_contradict s k uv n (l.eraseIdx j) _ (H.out.up (by repeat (first | exact Ext.refl _ | assumption | refine Ext.alloc ?_ _ | refine Ext.drew ?_ | refine Ext.drewN ?_ _ | refine Ext.setCell ?_ (by first | (simp; done) | (simp; omega) | omega) _ | refine Ext.trans ?_ (by assumption)))) (Huc.out.up (by repeat (first | exact Ext.refl _ | assumption | refine Ext.alloc ?_ _ | refine Ext.drew ?_ | refine Ext.drewN ?_ _ | refine Ext.setCell ?_ (by first | (simp; done) | (simp; omega) | omega) _ | refine Ext.trans ?_ (by assumption)))) Hok.out) ?_; rintro e w3 ⟨rfl, hxb⟩))
          all_goals
            have hx23 : Ext wr w3 := (by repeat (first | exact Ext.refl _ | assumption | refine Ext.alloc ?_ _ | refine Ext.drew ?_ | refine Ext.drewN ?_ _ | refine Ext.setCell ?_ (by first | (simp; done) | (simp; omega) | omega) _ | refine Ext.trans ?_ (by assumption)))
            have hxw3 : Ext w w3 := hxr.trans hx23
            have Hb3 := Lib.hid (Hnb.out.ext hx23)
            cases hcj : conB n (l.eraseIdx j)
            · have Hcj := Lib.hid hcj
              clear hcj
              go_wp2_with fail
              go_roundg (l.length - (j + 1))
              case measure => omega
              case rel => exact ⟨j + 1, by omega, by go_num, (by repeat (first | exact Ext.refl _ | assumption | refine Ext.alloc ?_ _ | refine Ext.drew ?_ | refine Ext.drewN ?_ _ | refine Ext.setCell ?_ (by first | (simp; done) | (simp; omega) | omega) _ | refine Ext.trans ?_ (by assumption))), Hb3.out.ext (by repeat (first | exact Ext.refl _ | assumption | refine Ext.alloc ?_ _ | refine Ext.drew ?_ | refine Ext.drewN ?_ _ | refine Ext.setCell ?_ (by first | (simp; done) | (simp; omega) | omega) _ | refine Ext.trans ?_ (by assumption))), Lib.hid (Hto.out.step Hcj.out)⟩
            · have Hv := Lib.hid ((confV_ok Hc.out).trans (B_false (fun hh => by have := hh.2 j hlt; rw [hcj] at this; cases this)))
              clear hcj
              go_wp2_with fail
              go_ret2
              exact ⟨by rw [Hv.out, Hc.out]; rfl, (by repeat (first | exact Ext.refl _ | assumption | refine Ext.alloc ?_ _ | refine Ext.drew ?_ | refine Ext.drewN ?_ _ | refine Ext.setCell ?_ (by first | (simp; done) | (simp; omega) | omega) _ | refine Ext.trans ?_ (by assumption)))⟩
        · obtain rfl : j = l.length := by omega
          have Hv := Lib.hid ((confV_ok Hc.out).trans (B_true Hto.out))
          go_wp2_with fail
          go_ret2
          exact ⟨by rw [Hv.out, Hc.out]; rfl, (by repeat (first | exact Ext.refl _ | assumption | refine Ext.alloc ?_ _ | refine Ext.drew ?_ | refine Ext.drewN ?_ _ | refine Ext.setCell ?_ (by first | (simp; done) | (simp; omega) | omega) _ | refine Ext.trans ?_ (by assumption)))⟩
  · have Hc := Lib.hid hc
    have hd : (blE n l != 0) = true := by simp [hc]
    clear hc
    go_wp2_with fail
    go_ret2
    exact ⟨by rw [confV_no Hc.out]; rfl, (by repeat (first | exact Ext.refl _ | assumption | refine Ext.alloc ?_ _ | refine Ext.drew ?_ | refine Ext.drewN ?_ _ | refine Ext.setCell ?_ (by first | (simp; done) | (simp; omega) | omega) _ | refine Ext.trans ?_ (by assumption)))⟩
set_option maxHeartbeats 4000000 in
theorem spec_IsConflict (s k v : Value) (n : Net) (l : List Int) (w : World) (h : NetIn w s k n) (hl : Ints w 0 w.heap.size v l) :
    Calls Tryz.prog 10 #[.agg #[s, k], v] w (RetX (.tuple #[.bool (confV n l), .int .i64 (blE n l)]) w) := by
  obtain ⟨A, c, rfl, hn, hc⟩ := hl.len
  have H := Lib.hid h
  have Hl := Lib.hid hl
  clear h hl
  go_enter Tryz.func10, Tryz.ntmps10
  go_wp2_with fail
  refine Calls.mono (spec_l21Code s k _ n l _ (H.out.up (by repeat (first | exact Ext.refl _ | assumption | refine Ext.alloc ?_ _ | refine Ext.drew ?_ | refine Ext.drewN ?_ _ | refine Ext.setCell ?_ (by first | (simp; done) | (simp; omega) | omega) _ | refine Ext.trans ?_ (by assumption)))) (Hl.out.up (by repeat (first | exact Ext.refl _ | assumption | refine Ext.alloc ?_ _ | refine Ext.drew ?_ | refine Ext.drewN ?_ _ | refine Ext.setCell ?_ (by first | (simp; done) | (simp; omega) | omega) _ | refine Ext.trans ?_ (by assumption))))) ?_
  rintro e w1 ⟨rfl, hx1⟩
  have hb := (Boxed.new w [s, k] 27).ext hx1; have hb0 := hb.at0; have hb1 := hb.at1; have hbg := hb.1; have Hhb := Lib.hid hb; clear hb
  have hx : Ext w w1 := (by repeat (first | exact Ext.refl _ | assumption | refine Ext.alloc ?_ _ | refine Ext.drew ?_ | refine Ext.drewN ?_ _ | refine Ext.setCell ?_ (by first | (simp; done) | (simp; omega) | omega) _ | refine Ext.trans ?_ (by assumption)))
  clear hx1
  by_cases hc : blE n l = 0
  · have Hc := Lib.hid hc
    have Hok := Lib.hid (blE_zero hc).1
    have Hbl := Lib.hid (blE_zero hc).2.2
    have hll := stm_len (blE_zero hc).1 (blE_zero hc).2.1
    have hd : (blE n l != 0) = false := by rw [hc]; rfl
    have Hb1 : Hid (Boxed w1 w.heap.size [s, k]) := Lib.hid Hhb.out
    clear hc
    go_wp2_with fail
    refine Calls.mono (spec_l21Contradict s k _ n l _ (H.out.up (by repeat (first | exact Ext.refl _ | assumption | refine Ext.alloc ?_ _ | refine Ext.drew ?_ | refine Ext.drewN ?_ _ | refine Ext.setCell ?_ (by first | (simp; done) | (simp; omega) | omega) _ | refine Ext.trans ?_ (by assumption)))) (Hl.out.up (by repeat (first | exact Ext.refl _ | assumption | refine Ext.alloc ?_ _ | refine Ext.drew ?_ | refine Ext.drewN ?_ _ | refine Ext.setCell ?_ (by first | (simp; done) | (simp; omega) | omega) _ | refine Ext.trans ?_ (by assumption)))) Hok.out Hbl.out) ?_
    rintro e w2 ⟨rfl, hx2⟩
    have hxw2 : Ext w w2 := (by repeat (first | exact Ext.refl _ | assumption | refine Ext.alloc ?_ _ | refine Ext.drew ?_ | refine Ext.drewN ?_ _ | refine Ext.setCell ?_ (by first | (simp; done) | (simp; omega) | omega) _ | refine Ext.trans ?_ (by assumption)))
    have Hb2 := Lib.hid (Hb1.out.ext hx2)
    have H0 : Hid (conB n l = B (ConfTo n l 0)) := Lib.hid (B_eq ⟨fun h => ⟨h, fun i hi => absurd hi (by omega)⟩, fun h => h.1⟩)
    clear hb0 hb1 hbg Hhb Hb1
    go_wp2_with fail
    go_loopg [7, 8] l.length (fun q u7 i wr => ∃ j : Nat, j + q = l.length ∧ i = .int .i64 j ∧ u7 = .bool (B (ConfTo n l j)) ∧ Ext w wr ∧ Boxed wr w.heap.size [s, k])
    case atStart => exact ⟨0, by omega, rfl, by rw [H0.out], (by repeat (first | exact Ext.refl _ | assumption | refine Ext.alloc ?_ _ | refine Ext.drew ?_ | refine Ext.drewN ?_ _ | refine Ext.setCell ?_ (by first | (simp; done) | (simp; omega) | omega) _ | refine Ext.trans ?_ (by assumption))), Hb2.out⟩
    case round =>
      obtain ⟨j, hj, rfl, rfl, hxr, hnb⟩ := hrel
      have nb := hnb; have nb0 := nb.at0; have nb1 := nb.at1; have nbg := nb.1; have Hnb := Lib.hid nb; clear nb
      clear hnb
      by_cases hlt : j < l.length
      · by_cases ht : ConfTo n l j
        · have Ht := Lib.hid ht
          rw [B_true ht]
          clear ht
          go_wp2_with fail
          go_region_law (first
            | (go_simp; go_at_call 61; refine Calls.mono (spec_l21Drop _ l j _ (Hl.out.up (by repeat (first | exact Ext.refl _ | assumption | refine Ext.alloc ?_ _ | refine Ext.drew ?_ | refine Ext.drewN ?_ _ | refine Ext.setCell ?_ (by first | (simp; done) | (simp; omega) | omega) _ | refine Ext.trans ?_ (by assumption)))) hlt hll) ?_; rintro e wc ⟨uv, g, rfl, hxc, hgc, huc⟩; have Huc := Lib.hid (Ints.of_own huc); have hxwc : Ext wr wc := (by repeat (first | exact Ext.refl _ | assumption | refine Ext.alloc ?_ _ | refine Ext.drew ?_ | refine Ext.drewN ?_ _ | refine Ext.setCell ?_ (by first | (simp; done) | (simp; omega) | omega) _ | refine Ext.trans ?_ (by assumption))); have cb := Hnb.out.ext hxwc; have cb0 := cb.at0; have cb1 := cb.at1; have cbg := cb.1; have Hcb := Lib.hid cb; clear cb; clear hgc huc)
            | (go_simp; go_at_call 60; refine Calls.mono (spec_l21Contradict s k uv n (l.eraseIdx j) _ (H.out.up (by repeat (first | exact Ext.refl _ | assumption | refine Ext.alloc ?_ _ | refine Ext.drew ?_ | refine Ext.drewN ?_ _ | refine Ext.setCell ?_ (by first | (simp; done) | (simp; omega) | omega) _ | refine Ext.trans ?_ (by assumption)))) (Huc.out.up (by repeat (first | exact Ext.refl _ | assumption | refine Ext.alloc ?_ _ | refine Ext.drew ?_ | refine Ext.drewN ?_ _ | refine Ext.setCell ?_ (by first | (simp; done) | (simp; omega) | omega) _ | refine Ext.trans ?_ (by assumption)))) Hok.out Hbl.out) ?_; rintro e w3 ⟨rfl, hxb⟩))
          all_goals
            have hx23 : Ext wr w3 := (by repeat (first | exact Ext.refl _ | assumption | refine Ext.alloc ?_ _ | refine Ext.drew ?_ | refine Ext.drewN ?_ _ | refine Ext.setCell ?_ (by first | (simp; done) | (simp; omega) | omega) _ | refine Ext.trans ?_ (by assumption)))
            have hxw3 : Ext w w3 := hxr.trans hx23
            have Hb3 := Lib.hid (Hnb.out.ext hx23)
            cases hcj : conB n (l.eraseIdx j)
            · have Hcj := Lib.hid (B_true (Ht.out.step hcj))
              clear hcj
              go_wp2_with fail
              go_roundg (l.length - (j + 1))
              case measure => omega
              case rel => exact ⟨j + 1, by omega, by go_num, by rw [Hcj.out], (by repeat (first | exact Ext.refl _ | assumption | refine Ext.alloc ?_ _ | refine Ext.drew ?_ | refine Ext.drewN ?_ _ | refine Ext.setCell ?_ (by first | (simp; done) | (simp; omega) | omega) _ | refine Ext.trans ?_ (by assumption))), Hb3.out.ext (by repeat (first | exact Ext.refl _ | assumption | refine Ext.alloc ?_ _ | refine Ext.drew ?_ | refine Ext.drewN ?_ _ | refine Ext.setCell ?_ (by first | (simp; done) | (simp; omega) | omega) _ | refine Ext.trans ?_ (by assumption)))⟩
            · have Hcj := Lib.hid (B_false (show ¬ ConfTo n l (j + 1) from fun hh => by have := hh.2 j (by omega); rw [hcj] at this; cases this))
              clear hcj
              go_wp2_with fail
              go_roundg (l.length - (j + 1))
              case measure => omega
              case rel => exact ⟨j + 1, by omega, by go_num, by rw [Hcj.out], (by repeat (first | exact Ext.refl _ | assumption | refine Ext.alloc ?_ _ | refine Ext.drew ?_ | refine Ext.drewN ?_ _ | refine Ext.setCell ?_ (by first | (simp; done) | (simp; omega) | omega) _ | refine Ext.trans ?_ (by assumption))), Hb3.out.ext (by repeat (first | exact Ext.refl _ | assumption | refine Ext.alloc ?_ _ | refine Ext.drew ?_ | refine Ext.drewN ?_ _ | refine Ext.setCell ?_ (by first | (simp; done) | (simp; omega) | omega) _ | refine Ext.trans ?_ (by assumption)))⟩
        · have Hcj := Lib.hid (B_false (show ¬ ConfTo n l (j + 1) from fun hh => ht ⟨hh.1, fun i hi => hh.2 i (by omega)⟩))
          rw [B_false ht]
          clear ht
          go_wp2_with fail
          (refine wp_region_onto prog_mixed (by kernel_rfl) ?_; (repeat (go_big_quiet_step ((fail)))); refine onto_end ?_; intro w3 hx3)
          have hxq : Ext wr w3 := (by repeat (first | exact Ext.refl _ | assumption | refine Ext.alloc ?_ _ | refine Ext.drew ?_ | refine Ext.drewN ?_ _ | refine Ext.setCell ?_ (by first | (simp; done) | (simp; omega) | omega) _ | refine Ext.trans ?_ (by assumption)))
          go_wp2_with fail
          go_roundg (l.length - (j + 1))
          case measure => omega
          case rel => exact ⟨j + 1, by omega, by go_num, by rw [Hcj.out], (by repeat (first | exact Ext.refl _ | assumption | refine Ext.alloc ?_ _ | refine Ext.drew ?_ | refine Ext.drewN ?_ _ | refine Ext.setCell ?_ (by first | (simp; done) | (simp; omega) | omega) _ | refine Ext.trans ?_ (by assumption))), Hnb.out.ext (by repeat (first | exact Ext.refl _ | assumption | refine Ext.alloc ?_ _ | refine Ext.drew ?_ | refine Ext.drewN ?_ _ | refine Ext.setCell ?_ (by first | (simp; done) | (simp; omega) | omega) _ | refine Ext.trans ?_ (by assumption)))⟩
      · obtain rfl : j = l.length := by omega
        have Hv := Lib.hid ((confV_ok Hc.out).trans (B_congr (q := ConfTo n l l.length) Iff.rfl))
        go_wp2_with fail
        go_ret2
        exact ⟨by rw [Hv.out, Hc.out]; rfl, (by repeat (first | exact Ext.refl _ | assumption | refine Ext.alloc ?_ _ | refine Ext.drew ?_ | refine Ext.drewN ?_ _ | refine Ext.setCell ?_ (by first | (simp; done) | (simp; omega) | omega) _ | refine Ext.trans ?_ (by assumption)))⟩
  · have Hc := Lib.hid hc
    have hd : (blE n l != 0) = true := by simp [hc]
    clear hc
    go_wp2_with fail
    go_ret2
    exact ⟨by rw [confV_no Hc.out]; rfl, (by repeat (first | exact Ext.refl _ | assumption | refine Ext.alloc ?_ _ | refine Ext.drew ?_ | refine Ext.drewN ?_ _ | refine Ext.setCell ?_ (by first | (simp; done) | (simp; omega) | omega) _ | refine Ext.trans ?_ (by assumption)))⟩
end Go.Proofs.YtfmnkojjkjkdeaaGreatDoor

/- Contracts: DisputedStatements. -/
namespace Go.Proofs.YtfmnkojjkjkdeaaGreatDoor
set_option linter.unusedVariables false
set_option linter.unusedSimpArgs false
open Go.RowKit
attribute [local go_sem] cell_onto

theorem boxInts (w : World) (o : Obj) (x : Int) (T : TypeId) : Ints ((w.alloc o).alloc (.cells #[.int .i64 x] T)) 0 ((w.alloc o).alloc (.cells #[.int .i64 x] T)).heap.size (.slice (some ⟨w.heap.size + 1, 0, none⟩) 1 1) [x] := by
  have := (Boxed.new (w.alloc o) [.int .i64 x] T).row (sz := 1) (f := intCell [x]) rfl (int_cells x)
  rwa [show (w.alloc o).heap.size = w.heap.size + 1 from World.size_alloc _ _] at this
theorem boxInts0 (w : World) (x : Int) (T : TypeId) : Ints (w.alloc (.cells #[.int .i64 x] T)) 0 (w.alloc (.cells #[.int .i64 x] T)).heap.size (.slice (some ⟨w.heap.size, 0, none⟩) 1 1) [x] :=
  (Boxed.new w [.int .i64 x] T).row (sz := 1) (f := intCell [x]) rfl (int_cells x)
theorem NewInts2.of_row {w w' : World} {b T : Nat} {v : Value} {l : List Int} (c : Int) (hx : Ext w w') (h : w'.ownsRow b T 1 v l.length (cellsOf (l.length * 1) (intCell l))) (hb : w.heap.size ≤ b) : NewInts2 l c w (.returned (.tuple #[v, .int .i64 c])) w' := by
  obtain ⟨g, hg, ho⟩ := Own.of_owned h
  exact ⟨v, g, rfl, hx, fun h0 => by have := (hg h0).2; omega, ho⟩
theorem emptyRow (w : World) (o : Obj) (T : TypeId) : ((w.alloc o).alloc (.cells #[] T)).ownsRow (w.heap.size + 1) T 1 (.slice (some ⟨w.heap.size + 1, 0, none⟩) 0 0) 0 (cellsOf (0 * 1) (intCell [])) := by
  have := World.ownsRow_made (base := w.heap.size + 1) (e := T) (size := 1) (w.alloc o) #[] 0 (by simp) (Nat.zero_le _) rfl
  simpa [cellsOf] using this

set_option maxHeartbeats 4000000 in
theorem impl_DisputedStatements (s k : Value) (n : Net) (w : World) (h : NetIn w s k n) : Calls Tryz.prog 15 #[.agg #[s, k]] w (NewInts2 (dispL n) (blE n []) w) := by
  have H := Lib.hid h
  clear h
  go_enter Tryz.func15, Tryz.ntmps15
  go_wp2_with fail
  refine Calls.mono (impl_checkBlame s k _ n [] _ (H.out.up (by repeat (first | exact Ext.refl _ | assumption | refine Ext.alloc ?_ _ | refine Ext.drew ?_ | refine Ext.drewN ?_ _ | refine Ext.setCell ?_ (by first | (simp; done) | (simp; omega) | omega) _ | refine Ext.trans ?_ (by assumption)))) (nilInts _)) ?_
  rintro e w1 ⟨rfl, hx1⟩
  have hb := (Boxed.new w [s, k] 27).ext hx1; have hb0 := hb.at0; have hb1 := hb.at1; have hbg := hb.1; have Hhb := Lib.hid hb; clear hb
  have hx : Ext w w1 := (by repeat (first | exact Ext.refl _ | assumption | refine Ext.alloc ?_ _ | refine Ext.drew ?_ | refine Ext.drewN ?_ _ | refine Ext.setCell ?_ (by first | (simp; done) | (simp; omega) | omega) _ | refine Ext.trans ?_ (by assumption)))
  have Hb1 : Hid (Boxed w1 w.heap.size [s, k]) := Lib.hid Hhb.out
  have hz1 := hx.size
  have hzs : w.heap.size < w1.heap.size := Hb1.out.1
  clear hx1
  by_cases hc : blE n [] = 0
  · have Hc := Lib.hid hc
    have Hok := Lib.hid (blE_zero hc).1
    have Hb := Lib.hid (blE_zero hc).2.2
    have h8 := (blE_zero hc).1.1
    have h20 := (blE_zero hc).1.2.1
    have hd : (blE n [] != 0) = false := by rw [hc]; rfl
    obtain ⟨N, hN⟩ : ∃ N, N = allS n := ⟨_, rfl⟩
    have HN := Lib.hid hN
    have hN28 : N ≤ 28 := by rw [hN]; unfold allS; omega
    have Hrow0 : Hid ((w1.alloc (.cells #[] 2)).ownsRow w1.heap.size 2 1 (.slice (some ⟨w1.heap.size, 0, none⟩) 0 0) 0 (cellsOf (0 * 1) (intCell []))) := Lib.hid (by
      have := World.ownsRow_made (base := w1.heap.size) (e := 2) (size := 1) w1 #[] 0 (by simp) (Nat.zero_le _) rfl
      simpa [cellsOf] using this)
    clear hc hN
    go_wp2_with fail
    refine Calls.mono (impl_statementsOf s k n _ (H.out.up (by repeat (first | exact Ext.refl _ | assumption | refine Ext.alloc ?_ _ | refine Ext.drew ?_ | refine Ext.drewN ?_ _ | refine Ext.setCell ?_ (by first | (simp; done) | (simp; omega) | omega) _ | refine Ext.trans ?_ (by assumption)))) ⟨by omega, by omega⟩) ?_
    rintro e w3 ⟨rfl, hx3⟩
    have e1 : (n.sets.length : Int) + n.links.length = (N : Int) := by rw [HN.out]; unfold allS; omega
    rw [e1]
    have Hrow1 := Lib.hid (row_ext Hrow0.out hx3)
    have Hb3 := Lib.hid (Hb1.out.ext (((Ext.refl w1).alloc _).trans hx3))
    have hxw3 : Ext w w3 := (by repeat (first | exact Ext.refl _ | assumption | refine Ext.alloc ?_ _ | refine Ext.drew ?_ | refine Ext.drewN ?_ _ | refine Ext.setCell ?_ (by first | (simp; done) | (simp; omega) | omega) _ | refine Ext.trans ?_ (by assumption)))
    have hz13 : w1.heap.size ≤ w3.heap.size := by have := hx3.size; simp at this; omega
    clear hb0 hb1 hbg Hhb Hb1 Hrow0 hx3
    have hb := Hb3.out; have hb0 := hb.at0; have hb1 := hb.at1; have hbg := hb.1; have Hhb := Lib.hid hb; clear hb
    go_wp2_with fail
    go_loopg [5, 6, 15] N (fun q u5 u6 i wr => ∃ j : Nat, j + q = N ∧ i = .int .i64 j ∧ Ext w wr ∧ w1.heap.size ≤ wr.heap.size ∧ Boxed wr w.heap.size [s, k] ∧
      wr.ownsRow w1.heap.size 2 1 u5 (dispTo n j).length (cellsOf ((dispTo n j).length * 1) (intCell (dispTo n j))))
    case atStart => exact ⟨0, by omega, rfl, (by repeat (first | exact Ext.refl _ | assumption | refine Ext.alloc ?_ _ | refine Ext.drew ?_ | refine Ext.drewN ?_ _ | refine Ext.setCell ?_ (by first | (simp; done) | (simp; omega) | omega) _ | refine Ext.trans ?_ (by assumption))), hz13, Hb3.out, Hrow1.out⟩
    clear hb0 hb1 hbg Hhb
    case round =>
      obtain ⟨j, hj, rfl, hxr, hz1r, hnb, hown⟩ := hrel
      have nb := hnb; have nb0 := nb.at0; have nb1 := nb.at1; have nbg := nb.1; have Hnb := Lib.hid nb; clear nb
      have Hown := Lib.hid hown
      have hol := dispTo_len n j
      have hzr := hxr.size
      clear hown hnb
      by_cases hlt : j < N
      · have T1 : decide ((j : Int) < (N : Int)) = true := decide_eq_true (by omega)
        have T2 : decide (j < N) = true := decide_eq_true hlt
        go_wp2_with fail
        refine Calls.mono (impl_repairs s k _ n [(j : Int)] _ (H.out.up (by repeat (first | exact Ext.refl _ | assumption | refine Ext.alloc ?_ _ | refine Ext.drew ?_ | refine Ext.drewN ?_ _ | refine Ext.setCell ?_ (by first | (simp; done) | (simp; omega) | omega) _ | refine Ext.trans ?_ (by assumption)))) (boxInts0 wr j 2) Hok.out) ?_
        rintro e w4 ⟨rfl, hx4⟩
        have hxw4 : Ext w w4 := (by repeat (first | exact Ext.refl _ | assumption | refine Ext.alloc ?_ _ | refine Ext.drew ?_ | refine Ext.drewN ?_ _ | refine Ext.setCell ?_ (by first | (simp; done) | (simp; omega) | omega) _ | refine Ext.trans ?_ (by assumption)))
        have Hrow4 := Lib.hid (row_ext Hown.out (((Ext.refl wr).alloc _).trans hx4))
        have Hb4 := Lib.hid (Hnb.out.ext (((Ext.refl wr).alloc _).trans hx4))
        have hz4 := hx4.size
        simp at hz4
        clear nb0 nb1 nbg Hnb hx4
        have nb := Hb4.out; have nb0 := nb.at0; have nb1 := nb.at1; have nbg := nb.1; have Hnb := Lib.hid nb; clear nb
        have Hre : Hid (repB n [(j : Int)] = B (Rep1 n j)) := Lib.hid (B_eq Iff.rfl)
        rw [Hre.out]
        by_cases hr : Rep1 n j
        · have Hr := Lib.hid (dispTo_yes hr)
          rw [B_true hr]
          clear hr
          go_wp2_with (at_builtin; refine wpList_append_row _ rfl _ _ 28 rfl w1.heap.size 2 1 8 Tryz.underlying28 (by kernel_rfl) (by omega) _ (dispTo n j).length 1 _ rfl (.inl (row_ext Hrow4.out (by repeat (first | exact Ext.refl _ | assumption | refine Ext.alloc ?_ _ | refine Ext.drew ?_ | refine Ext.drewN ?_ _ | refine Ext.setCell ?_ (by first | (simp; done) | (simp; omega) | omega) _ | refine Ext.trans ?_ (by assumption))))) (.inr (by omega)) 0 _ _ (intCell [(j : Int)]) rfl ((Boxed.new w4 [.int .i64 (j : Int)] 2).row rfl (int_cells _)) (fun _ _ => rfl) (by unfold maxLen; omega) (by omega) (by simp; omega) ?_; intro v5 w5 hown5 hput5)
          go_roundg (N - (j + 1))
          case measure => omega
          case rel =>
            have hxb : Ext w (w4.alloc (.cells #[.int .i64 (j : Int)] 2)) := (by repeat (first | exact Ext.refl _ | assumption | refine Ext.alloc ?_ _ | refine Ext.drew ?_ | refine Ext.drewN ?_ _ | refine Ext.setCell ?_ (by first | (simp; done) | (simp; omega) | omega) _ | refine Ext.trans ?_ (by assumption)))
            exact ⟨j + 1, by omega, by go_num, hput5.ext hxb (by omega), by have := hput5.size; simp at this; omega, (Hb4.out.ext (show Ext w4 (w4.alloc (.cells #[.int .i64 (j : Int)] 2)) from (by repeat (first | exact Ext.refl _ | assumption | refine Ext.alloc ?_ _ | refine Ext.drew ?_ | refine Ext.drewN ?_ _ | refine Ext.setCell ?_ (by first | (simp; done) | (simp; omega) | omega) _ | refine Ext.trans ?_ (by assumption))))).off hput5.1 (fun hh => by have := hh.1; omega), by rw [Hr.out, ← intCells_push, List.length_append]; exact hown5⟩
        · have Hr := Lib.hid (dispTo_no hr)
          rw [B_false hr]
          clear hr
          go_wp2_with fail
          go_roundg (N - (j + 1))
          case measure => omega
          case rel => exact ⟨j + 1, by omega, by go_num, (by repeat (first | exact Ext.refl _ | assumption | refine Ext.alloc ?_ _ | refine Ext.drew ?_ | refine Ext.drewN ?_ _ | refine Ext.setCell ?_ (by first | (simp; done) | (simp; omega) | omega) _ | refine Ext.trans ?_ (by assumption))), by omega, Hb4.out, by rw [Hr.out]; exact Hrow4.out⟩
      · obtain rfl : j = N := by omega
        have T1 : decide ((j : Int) < (j : Int)) = false := decide_eq_false (by omega)
        go_wp2_with fail
        go_ret2
        have h2 := Hown.out
        rw [HN.out] at h2
        rw [dispL_ok Hc.out, Hc.out]
        exact NewInts2.of_row 0 (by repeat (first | exact Ext.refl _ | assumption | refine Ext.alloc ?_ _ | refine Ext.drew ?_ | refine Ext.drewN ?_ _ | refine Ext.setCell ?_ (by first | (simp; done) | (simp; omega) | omega) _ | refine Ext.trans ?_ (by assumption))) h2 (by omega)
  · have Hc := Lib.hid hc
    have hd : (blE n [] != 0) = true := by simp [hc]
    clear hc
    go_wp2_with fail
    go_ret2
    rw [dispL_no Hc.out]
    exact NewInts2.nil _ (by repeat (first | exact Ext.refl _ | assumption | refine Ext.alloc ?_ _ | refine Ext.drew ?_ | refine Ext.drewN ?_ _ | refine Ext.setCell ?_ (by first | (simp; done) | (simp; omega) | omega) _ | refine Ext.trans ?_ (by assumption)))
set_option maxHeartbeats 4000000 in
theorem spec_DisputedStatements (s k : Value) (n : Net) (w : World) (h : NetIn w s k n) : Calls Tryz.prog 16 #[.agg #[s, k]] w (NewInts2 (dispL n) (blE n []) w) := by
  have H := Lib.hid h
  clear h
  go_enter Tryz.func16, Tryz.ntmps16
  go_wp2_with fail
  refine Calls.mono (spec_l21Code s k _ n [] _ (H.out.up (by repeat (first | exact Ext.refl _ | assumption | refine Ext.alloc ?_ _ | refine Ext.drew ?_ | refine Ext.drewN ?_ _ | refine Ext.setCell ?_ (by first | (simp; done) | (simp; omega) | omega) _ | refine Ext.trans ?_ (by assumption)))) (nilInts _)) ?_
  rintro e w1 ⟨rfl, hx1⟩
  have hb := (Boxed.new w [s, k] 27).ext hx1; have hb0 := hb.at0; have hb1 := hb.at1; have hbg := hb.1; have Hhb := Lib.hid hb; clear hb
  have hx : Ext w w1 := (by repeat (first | exact Ext.refl _ | assumption | refine Ext.alloc ?_ _ | refine Ext.drew ?_ | refine Ext.drewN ?_ _ | refine Ext.setCell ?_ (by first | (simp; done) | (simp; omega) | omega) _ | refine Ext.trans ?_ (by assumption)))
  have Hb1 : Hid (Boxed w1 w.heap.size [s, k]) := Lib.hid Hhb.out
  have hz1 := hx.size
  have hzs : w.heap.size < w1.heap.size := Hb1.out.1
  clear hx1
  by_cases hc : blE n [] = 0
  · have Hc := Lib.hid hc
    have Hok := Lib.hid (blE_zero hc).1
    have Hb := Lib.hid (blE_zero hc).2.2
    have h8 := (blE_zero hc).1.1
    have h20 := (blE_zero hc).1.2.1
    have hd : (blE n [] != 0) = false := by rw [hc]; rfl
    obtain ⟨N, hN⟩ : ∃ N, N = allS n := ⟨_, rfl⟩
    have HN := Lib.hid hN
    have hN28 : N ≤ 28 := by rw [hN]; unfold allS; omega
    have Hrow0 : Hid ((w1.alloc (.cells #[] 2)).ownsRow w1.heap.size 2 1 (.slice (some ⟨w1.heap.size, 0, none⟩) 0 0) 0 (cellsOf (0 * 1) (intCell []))) := Lib.hid (by
      have := World.ownsRow_made (base := w1.heap.size) (e := 2) (size := 1) w1 #[] 0 (by simp) (Nat.zero_le _) rfl
      simpa [cellsOf] using this)
    clear hc hN
    go_wp2_with fail
    go_loopg [5, 6] N (fun q u5 i wr => ∃ j : Nat, j + q = N ∧ i = .int .i64 j ∧ Ext w wr ∧ w1.heap.size ≤ wr.heap.size ∧ Boxed wr w.heap.size [s, k] ∧
      wr.ownsRow w1.heap.size 2 1 u5 (dispTo n j).length (cellsOf ((dispTo n j).length * 1) (intCell (dispTo n j))))
    case atStart => exact ⟨0, by omega, rfl, (by repeat (first | exact Ext.refl _ | assumption | refine Ext.alloc ?_ _ | refine Ext.drew ?_ | refine Ext.drewN ?_ _ | refine Ext.setCell ?_ (by first | (simp; done) | (simp; omega) | omega) _ | refine Ext.trans ?_ (by assumption))), by simp, Hb1.out.ext (by repeat (first | exact Ext.refl _ | assumption | refine Ext.alloc ?_ _ | refine Ext.drew ?_ | refine Ext.drewN ?_ _ | refine Ext.setCell ?_ (by first | (simp; done) | (simp; omega) | omega) _ | refine Ext.trans ?_ (by assumption))), Hrow0.out⟩
    clear hb0 hb1 hbg Hhb
    case round =>
      obtain ⟨j, hj, rfl, hxr, hz1r, hnb, hown⟩ := hrel
      have nb := hnb; have nb0 := nb.at0; have nb1 := nb.at1; have nbg := nb.1; have Hnb := Lib.hid nb; clear nb
      have Hown := Lib.hid hown
      have hol := dispTo_len n j
      have hzr := hxr.size
      clear hown hnb
      go_wp2_with fail
      refine Calls.mono (spec_l21Count s k n wr (H.out.up hxr) ⟨by omega, by omega⟩) ?_
      rintro e w2 ⟨rfl, hx2⟩
      have e1 : (n.sets.length : Int) + n.links.length = (N : Int) := by rw [HN.out]; unfold allS; omega
      rw [e1]
      have hxr2 : Ext w w2 := hxr.trans hx2
      have Hn2 := Lib.hid (Hnb.out.ext hx2)
      have Hown2 := Lib.hid (row_ext Hown.out hx2)
      clear nb0 nb1 nbg Hnb Hown hxr hzr
      have hzr := hxr2.size
      have hx2z := hx2.size
      have hz12 : w1.heap.size ≤ w2.heap.size := by omega
      have nb := Hn2.out; have nb0 := nb.at0; have nb1 := nb.at1; have nbg := nb.1; have Hnb := Lib.hid nb; clear nb
      by_cases hlt : j < N
      · have T1 : decide ((j : Int) < (N : Int)) = true := decide_eq_true (by omega)
        have T2 : decide (j < N) = true := decide_eq_true hlt
        go_wp2_with fail
        refine Calls.mono (spec_l21Repairs s k _ n [(j : Int)] _ (H.out.up (by repeat (first | exact Ext.refl _ | assumption | refine Ext.alloc ?_ _ | refine Ext.drew ?_ | refine Ext.drewN ?_ _ | refine Ext.setCell ?_ (by first | (simp; done) | (simp; omega) | omega) _ | refine Ext.trans ?_ (by assumption)))) (boxInts0 w2 j 2) Hok.out Hb.out) ?_
        rintro e w4 ⟨rfl, hx4⟩
        have hxw4 : Ext w w4 := (by repeat (first | exact Ext.refl _ | assumption | refine Ext.alloc ?_ _ | refine Ext.drew ?_ | refine Ext.drewN ?_ _ | refine Ext.setCell ?_ (by first | (simp; done) | (simp; omega) | omega) _ | refine Ext.trans ?_ (by assumption)))
        have Hrow4 := Lib.hid (row_ext Hown2.out (((Ext.refl w2).alloc _).trans hx4))
        have Hb4 := Lib.hid (Hnb.out.ext (((Ext.refl w2).alloc _).trans hx4))
        have hz4 := hx4.size
        simp at hz4
        clear nb0 nb1 nbg Hnb hx4
        have nb := Hb4.out; have nb0 := nb.at0; have nb1 := nb.at1; have nbg := nb.1; have Hnb := Lib.hid nb; clear nb
        have Hre : Hid (repB n [(j : Int)] = B (Rep1 n j)) := Lib.hid (B_eq Iff.rfl)
        rw [Hre.out]
        by_cases hr : Rep1 n j
        · have Hr := Lib.hid (dispTo_yes hr)
          rw [B_true hr]
          clear hr
          go_wp2_with (at_builtin; refine wpList_append_row _ rfl _ _ 28 rfl w1.heap.size 2 1 8 Tryz.underlying28 (by kernel_rfl) (by omega) _ (dispTo n j).length 1 _ rfl (.inl (row_ext Hrow4.out (by repeat (first | exact Ext.refl _ | assumption | refine Ext.alloc ?_ _ | refine Ext.drew ?_ | refine Ext.drewN ?_ _ | refine Ext.setCell ?_ (by first | (simp; done) | (simp; omega) | omega) _ | refine Ext.trans ?_ (by assumption))))) (.inr (by omega)) 0 _ _ (intCell [(j : Int)]) rfl ((Boxed.new w4 [.int .i64 (j : Int)] 2).row rfl (int_cells _)) (fun _ _ => rfl) (by unfold maxLen; omega) (by omega) (by simp; omega) ?_; intro v5 w5 hown5 hput5)
          go_roundg (N - (j + 1))
          case measure => omega
          case rel =>
            have hxb : Ext w (w4.alloc (.cells #[.int .i64 (j : Int)] 2)) := (by repeat (first | exact Ext.refl _ | assumption | refine Ext.alloc ?_ _ | refine Ext.drew ?_ | refine Ext.drewN ?_ _ | refine Ext.setCell ?_ (by first | (simp; done) | (simp; omega) | omega) _ | refine Ext.trans ?_ (by assumption)))
            exact ⟨j + 1, by omega, by go_num, hput5.ext hxb (by omega), by have := hput5.size; simp at this; omega, (Hb4.out.ext (show Ext w4 (w4.alloc (.cells #[.int .i64 (j : Int)] 2)) from (by repeat (first | exact Ext.refl _ | assumption | refine Ext.alloc ?_ _ | refine Ext.drew ?_ | refine Ext.drewN ?_ _ | refine Ext.setCell ?_ (by first | (simp; done) | (simp; omega) | omega) _ | refine Ext.trans ?_ (by assumption))))).off hput5.1 (fun hh => by have := hh.1; omega), by rw [Hr.out, ← intCells_push, List.length_append]; exact hown5⟩
        · have Hr := Lib.hid (dispTo_no hr)
          rw [B_false hr]
          clear hr
          go_wp2_with fail
          go_roundg (N - (j + 1))
          case measure => omega
          case rel => exact ⟨j + 1, by omega, by go_num, (by repeat (first | exact Ext.refl _ | assumption | refine Ext.alloc ?_ _ | refine Ext.drew ?_ | refine Ext.drewN ?_ _ | refine Ext.setCell ?_ (by first | (simp; done) | (simp; omega) | omega) _ | refine Ext.trans ?_ (by assumption))), by omega, Hb4.out, by rw [Hr.out]; exact Hrow4.out⟩
      · obtain rfl : j = N := by omega
        have T1 : decide ((j : Int) < (j : Int)) = false := decide_eq_false (by omega)
        go_wp2_with fail
        go_ret2
        have h2 := Hown2.out
        rw [HN.out] at h2
        rw [dispL_ok Hc.out, Hc.out]
        exact NewInts2.of_row 0 (by repeat (first | exact Ext.refl _ | assumption | refine Ext.alloc ?_ _ | refine Ext.drew ?_ | refine Ext.drewN ?_ _ | refine Ext.setCell ?_ (by first | (simp; done) | (simp; omega) | omega) _ | refine Ext.trans ?_ (by assumption))) h2 (by omega)
  · have Hc := Lib.hid hc
    have hd : (blE n [] != 0) = true := by simp [hc]
    clear hc
    go_wp2_with fail
    go_ret2
    rw [dispL_no Hc.out]
    exact NewInts2.nil _ (by repeat (first | exact Ext.refl _ | assumption | refine Ext.alloc ?_ _ | refine Ext.drew ?_ | refine Ext.drewN ?_ _ | refine Ext.setCell ?_ (by first | (simp; done) | (simp; omega) | omega) _ | refine Ext.trans ?_ (by assumption)))
end Go.Proofs.YtfmnkojjkjkdeaaGreatDoor

/- Contracts: FindConflict. -/
namespace Go.Proofs.YtfmnkojjkjkdeaaGreatDoor
set_option linter.unusedVariables false
set_option linter.unusedSimpArgs false
open Go.RowKit
attribute [local go_sem] cell_onto

set_option maxHeartbeats 1000000 in
theorem slices_Index_at (v : Value) (l : List Int) (x : Int) (p : Nat) (w : World) (h : Ints w 0 w.heap.size v l) (hp : p < l.length) (hx : inAt l p = x) (hlt : ∀ i, i < p → inAt l i ≠ x) :
    Calls Tryz.prog 198 #[v, .int .i64 x] w (RetX (.int .i64 p) w) := by
  obtain ⟨A, c, rfl, hn, hc⟩ := h.len
  have H := Lib.hid h
  have Hx := Lib.hid hx
  have Hl := Lib.hid hlt
  clear h hx hlt
  go_enter Tryz.func198, Tryz.ntmps198
  go_wp2_with fail
  go_loopg [5, 8] (p + 1) (fun k u i wr => ∃ j : Nat, j + k = p + 1 ∧ j ≤ p ∧ i = .int .i64 j ∧ Ext w wr)
  case atStart => exact ⟨0, by omega, by omega, rfl, Ext.refl _⟩
  case round =>
    obtain ⟨j, hj, hjp, rfl, hxr⟩ := hrel
    have hlt : j < l.length := by omega
    obtain ⟨b, off, rfl, _, hb, h1⟩ := (H.out.ext hxr (Nat.le_refl _)).at_ hlt
    by_cases e : j = p
    · subst e
      have e1 : (x == inAt l j) = true := by simp [Hx.out]
      go_wp2_with fail
      go_ret
      exact ⟨rfl, (by repeat (first | exact Ext.refl _ | assumption | refine Ext.alloc ?_ _ | refine Ext.drew ?_ | refine Ext.drewN ?_ _ | refine Ext.setCell ?_ (by first | (simp; done) | (simp; omega) | omega) _ | refine Ext.trans ?_ (by assumption)))⟩
    · have e1 : (x == inAt l j) = false := by simp; exact fun h => Hl.out j (by omega) h.symm
      have hjp2 : j < p := by omega
      clear e
      go_wp2_with fail
      go_roundg (p + 1 - (j + 1))
      case measure => omega
      case rel => exact ⟨j + 1, by omega, by omega, by go_num, (by repeat (first | exact Ext.refl _ | assumption | refine Ext.alloc ?_ _ | refine Ext.drew ?_ | refine Ext.drewN ?_ _ | refine Ext.setCell ?_ (by first | (simp; done) | (simp; omega) | omega) _ | refine Ext.trans ?_ (by assumption)))⟩
/-- the list under way -/
def FcSt (n : Net) (lo k : Nat) (u : Value) (w : World) : Prop := ∃ g, Own w g 1 u (outL n k).length (intCell (outL n k)) ∧ (0 < (outL n k).length → lo ≤ g)
theorem FcSt.ext {n : Net} {lo k : Nat} {u : Value} {w w' : World} (h : FcSt n lo k u w) (hx : Ext w w') : FcSt n lo k u w' := by
  obtain ⟨g, h1, h2⟩ := h
  exact ⟨g, h1.ext hx, h2⟩
theorem FcSt.ints {n : Net} {lo k : Nat} {u : Value} {w : World} (h : FcSt n lo k u w) : Ints w 0 w.heap.size u (outL n k) := by
  obtain ⟨g, h1, _⟩ := h
  exact Ints.of_own h1
theorem FcSt.of_list {n : Net} {lo k g : Nat} {u : Value} {w : World} {l : List Int} (h : Own w g 1 u l.length (intCell l)) (hg : 0 < l.length → lo ≤ g) (e : outL n k = l) : FcSt n lo k u w := by
  unfold FcSt
  rw [e]
  exact ⟨g, h, hg⟩
theorem outL_small {n : Net} (h : NetOk n) (k : Nat) (hk : k ≤ allS n) : (outL n k).length ≤ 28 := by
  rw [outL_len]
  have h1 := kept_len n k
  have h2 := h.1
  have h3 := h.2.1
  unfold allS at *
  omega

set_option maxHeartbeats 8000000 in
theorem spec_FindConflict (s k : Value) (n : Net) (w : World) (h : NetIn w s k n) : Calls Tryz.prog 53 #[.agg #[s, k]] w (NewInts2 (fcL n) (fcE n) w) := by
  have H := Lib.hid h
  clear h
  go_enter Tryz.func53, Tryz.ntmps53
  go_wp2_with fail
  refine Calls.mono (spec_l21Code s k _ n [] _ (H.out.up (by repeat (first | exact Ext.refl _ | assumption | refine Ext.alloc ?_ _ | refine Ext.drew ?_ | refine Ext.drewN ?_ _ | refine Ext.setCell ?_ (by first | (simp; done) | (simp; omega) | omega) _ | refine Ext.trans ?_ (by assumption)))) (nilInts _)) ?_
  rintro e w1 ⟨rfl, hx1⟩
  have hb := (Boxed.new w [s, k] 27).ext hx1; have hb0 := hb.at0; have hb1 := hb.at1; have hbg := hb.1; have Hhb := Lib.hid hb; clear hb
  have hx : Ext w w1 := (by repeat (first | exact Ext.refl _ | assumption | refine Ext.alloc ?_ _ | refine Ext.drew ?_ | refine Ext.drewN ?_ _ | refine Ext.setCell ?_ (by first | (simp; done) | (simp; omega) | omega) _ | refine Ext.trans ?_ (by assumption)))
  have Hb1 : Hid (Boxed w1 w.heap.size [s, k]) := Lib.hid Hhb.out
  have hzs : w.heap.size < w1.heap.size := Hb1.out.1
  clear hx1
  by_cases hc : blE n [] = 0
  · have Hc := Lib.hid hc
    have Hok := Lib.hid (blE_zero hc).1
    have Hbl := Lib.hid (blE_zero hc).2.2
    have hd : (blE n [] != 0) = false := by rw [hc]; rfl
    clear hc
    go_wp2_with fail
    refine Calls.mono (spec_l21Others s k _ n [] _ (H.out.up (by repeat (first | exact Ext.refl _ | assumption | refine Ext.alloc ?_ _ | refine Ext.drew ?_ | refine Ext.drewN ?_ _ | refine Ext.setCell ?_ (by first | (simp; done) | (simp; omega) | omega) _ | refine Ext.trans ?_ (by assumption)))) (nilInts _) Hok.out) ?_
    rintro e w2 ⟨u, rfl, hx2, hu⟩
    have Hst0 : Hid (FcSt n w.heap.size 0 u w2) := Lib.hid (by
      obtain ⟨g, hg, ho⟩ := Own.of_owned hu
      exact FcSt.of_list ho (fun h0 => by have := (hg h0).2; omega) (by rw [outL_zero]; exact (othTo_nil _).symm))
    obtain ⟨Au, cu, rfl⟩ : ∃ A c, u = .slice A (outL n 0).length c := by obtain ⟨A, c, e, _⟩ := Hst0.out.ints.len; exact ⟨A, c, e⟩
    have hxw2 : Ext w w2 := (by repeat (first | exact Ext.refl _ | assumption | refine Ext.alloc ?_ _ | refine Ext.drew ?_ | refine Ext.drewN ?_ _ | refine Ext.setCell ?_ (by first | (simp; done) | (simp; omega) | omega) _ | refine Ext.trans ?_ (by assumption)))
    have Hb2 := Lib.hid (Hb1.out.ext hx2)
    clear hb0 hb1 hbg Hhb Hb1 hx2 hu
    have hb := Hb2.out; have hb0 := hb.at0; have hb1 := hb.at1; have hbg := hb.1; have Hhb := Lib.hid hb; clear hb
    go_wp2_with fail
    refine Calls.mono (spec_l21Contradict s k _ n (outL n 0) _ (H.out.up hxw2) Hst0.out.ints Hok.out Hbl.out) ?_
    rintro e w3 ⟨rfl, hx3⟩
    have Hcb : Hid (conB n (outL n 0) = !B (Sol n)) := Lib.hid (by rw [outL_zero]; exact conB_all n)
    rw [Hcb.out]
    have Hst1 := Lib.hid (Hst0.out.ext hx3)
    have hxw3 : Ext w w3 := (by repeat (first | exact Ext.refl _ | assumption | refine Ext.alloc ?_ _ | refine Ext.drew ?_ | refine Ext.drewN ?_ _ | refine Ext.setCell ?_ (by first | (simp; done) | (simp; omega) | omega) _ | refine Ext.trans ?_ (by assumption)))
    have Hb3 := Lib.hid (Hb2.out.ext hx3)
    by_cases hs : Sol n
    · have Hv := Lib.hid (fc_sol Hc.out hs)
      rw [B_true hs]
      clear hs
      go_wp2_with fail
      go_ret2
      rw [Hv.out.1, Hv.out.2]
      exact NewInts2.nil 4 (by repeat (first | exact Ext.refl _ | assumption | refine Ext.alloc ?_ _ | refine Ext.drew ?_ | refine Ext.drewN ?_ _ | refine Ext.setCell ?_ (by first | (simp; done) | (simp; omega) | omega) _ | refine Ext.trans ?_ (by assumption)))
    · have Hv := Lib.hid (fc_ok Hc.out hs)
      rw [B_false hs]
      clear hs hb0 hb1 hbg Hhb Hb2 Hst0 hx3
      obtain ⟨N, hN⟩ : ∃ N, N = allS n := ⟨_, rfl⟩
      have HN := Lib.hid hN
      clear hN
      go_wp2_with fail
      go_loopg [5, 6, 7] N (fun q u5 i u7 wr => ∃ t : Nat, t + q = N ∧ i = .int .i64 (kept n t).length ∧ (∃ A c, u5 = .slice A (outL n t).length c) ∧ Ext w wr ∧ Boxed wr w.heap.size [s, k] ∧ Hid (FcSt n w.heap.size t u5 wr))
      case atStart => exact ⟨0, by omega, rfl, ⟨_, _, rfl⟩, (by repeat (first | exact Ext.refl _ | assumption | refine Ext.alloc ?_ _ | refine Ext.drew ?_ | refine Ext.drewN ?_ _ | refine Ext.setCell ?_ (by first | (simp; done) | (simp; omega) | omega) _ | refine Ext.trans ?_ (by assumption))), Hb3.out, Hst1⟩
      case round =>
        obtain ⟨t, ht, rfl, ⟨A5, c5, rfl⟩, hxr, hnb, Hst⟩ := hrel
        have nb := hnb; have nb0 := nb.at0; have nb1 := nb.at1; have nbg := nb.1; have Hnb := Lib.hid nb; clear nb
        clear hnb
        have Hlen := Lib.hid (outL_len n t)
        have hsm := outL_small Hok.out t (by rw [← HN.out]; omega)
        by_cases hlt : t < N
        · have Hta := Lib.hid (show t < allS n by rw [← HN.out]; exact hlt)
          have hkl : (kept n t).length < (outL n t).length := by have h1 := Hlen.out; have h2 := Hta.out; omega
          have T1 : decide (((kept n t).length : Int) < ((outL n t).length : Int)) = true := decide_eq_true (by omega)
          have T2 : decide ((kept n t).length < (outL n t).length) = true := decide_eq_true hkl
          go_wp2_with fail
          refine Calls.mono (spec_l21Drop _ (outL n t) (kept n t).length _ Hst.out.ints hkl (by omega)) ?_
          rintro e w6 ⟨uv, g6, rfl, hx6, hg6, hu6⟩
          obtain ⟨A6, c6, rfl⟩ := hu6.len
          have Hu6 := Lib.hid hu6
          have hzr := hxr.size
          have Hg6 := Lib.hid (show 0 < ((outL n t).eraseIdx (kept n t).length).length → w.heap.size ≤ g6 from fun h0 => by have := hg6 h0; omega)
          have Hst6 := Lib.hid (Hst.out.ext hx6)
          have Hb6 := Lib.hid (Hnb.out.ext hx6)
          have hxw6 : Ext w w6 := (by repeat (first | exact Ext.refl _ | assumption | refine Ext.alloc ?_ _ | refine Ext.drew ?_ | refine Ext.drewN ?_ _ | refine Ext.setCell ?_ (by first | (simp; done) | (simp; omega) | omega) _ | refine Ext.trans ?_ (by assumption)))
          clear nb0 nb1 nbg Hnb hu6 hg6 hx6 Hst
          have nb := Hb6.out; have nb0 := nb.at0; have nb1 := nb.at1; have nbg := nb.1; have Hnb := Lib.hid nb; clear nb
          go_wp2_with fail
          refine Calls.mono (spec_l21Contradict s k _ n ((outL n t).eraseIdx (kept n t).length) _ (H.out.up hxw6) (Ints.of_own Hu6.out) Hok.out Hbl.out) ?_
          rintro e w7 ⟨rfl, hx7⟩
          have hxw7 : Ext w w7 := (by repeat (first | exact Ext.refl _ | assumption | refine Ext.alloc ?_ _ | refine Ext.drew ?_ | refine Ext.drewN ?_ _ | refine Ext.setCell ?_ (by first | (simp; done) | (simp; omega) | omega) _ | refine Ext.trans ?_ (by assumption)))
          have Hb7 := Lib.hid (Hnb.out.ext hx7)
          cases hcj : conB n ((outL n t).eraseIdx (kept n t).length)
          · have He := Lib.hid (outL_no Hta.out hcj)
            have Hst7 := Lib.hid (Hst6.out.ext hx7)
            clear hcj
            go_wp2_with fail
            go_roundg (N - (t + 1))
            case measure => omega
            case rel => exact ⟨t + 1, by omega, by rw [He.out.2]; go_num, ⟨_, _, by rw [He.out.1]⟩, (by repeat (first | exact Ext.refl _ | assumption | refine Ext.alloc ?_ _ | refine Ext.drew ?_ | refine Ext.drewN ?_ _ | refine Ext.setCell ?_ (by first | (simp; done) | (simp; omega) | omega) _ | refine Ext.trans ?_ (by assumption))), Hb7.out, Lib.hid (by unfold FcSt; rw [He.out.1]; exact Hst7.out)⟩
          · have He := Lib.hid (outL_yes Hta.out hcj)
            have Hst7 := Lib.hid (FcSt.of_list (n := n) (Hu6.out.ext hx7) Hg6.out He.out.1)
            clear hcj
            go_wp2_with fail
            go_roundg (N - (t + 1))
            case measure => omega
            case rel => exact ⟨t + 1, by omega, by rw [He.out.2], ⟨_, _, by rw [He.out.1]⟩, (by repeat (first | exact Ext.refl _ | assumption | refine Ext.alloc ?_ _ | refine Ext.drew ?_ | refine Ext.drewN ?_ _ | refine Ext.setCell ?_ (by first | (simp; done) | (simp; omega) | omega) _ | refine Ext.trans ?_ (by assumption))), Hb7.out, Hst7⟩
        · obtain rfl : t = N := by omega
          have T1 : decide (((kept n t).length : Int) < ((outL n t).length : Int)) = false := decide_eq_false (by have h1 := Hlen.out; have h2 := HN.out; omega)
          have T2 : decide ((kept n t).length < (outL n t).length) = false := decide_eq_false (by have h1 := Hlen.out; have h2 := HN.out; omega)
          have HN2 : Hid (t = allS n) := Lib.hid HN.out
          go_wp2_with fail
          go_ret2
          obtain ⟨g, h1, h2⟩ := Hst.out
          rw [HN2.out] at h1 h2
          rw [Hv.out.1, Hv.out.2, HN2.out]
          exact ⟨_, g, rfl, (by repeat (first | exact Ext.refl _ | assumption | refine Ext.alloc ?_ _ | refine Ext.drew ?_ | refine Ext.drewN ?_ _ | refine Ext.setCell ?_ (by first | (simp; done) | (simp; omega) | omega) _ | refine Ext.trans ?_ (by assumption))), h2, h1⟩
  · have Hc := Lib.hid (fc_code hc)
    have hd : (blE n [] != 0) = true := by simp [hc]
    clear hc
    go_wp2_with fail
    go_ret2
    rw [Hc.out.1, Hc.out.2]
    exact NewInts2.nil _ (by repeat (first | exact Ext.refl _ | assumption | refine Ext.alloc ?_ _ | refine Ext.drew ?_ | refine Ext.drewN ?_ _ | refine Ext.setCell ?_ (by first | (simp; done) | (simp; omega) | omega) _ | refine Ext.trans ?_ (by assumption)))
end Go.Proofs.YtfmnkojjkjkdeaaGreatDoor

/- Contracts: what IsConflict and StatementText are asked about. -/
namespace Go.Proofs.YtfmnkojjkjkdeaaGreatDoor
set_option linter.unusedVariables false
set_option linter.unusedSimpArgs false
open Go.RowKit
attribute [local go_sem] cell_onto

set_option maxRecDepth 100000 in
set_option maxHeartbeats 8000000 in
theorem spec_DrawIsConflict (cn : Nat) (cv : Value) (w : World) (h : Bytes w 0 w.heap.size cv cn) : Calls Tryz.prog 8 #[cv] w (DNetI w) := by
  obtain ⟨A, c, rfl, _⟩ := h.len
  have H := Lib.hid h
  clear h
  have Hb := Lib.hid (Boxed.new w [.slice none 0 0, .slice none 0 0] 27)
  go_enter Tryz.func8, Tryz.ntmps8
  go_wp2_with fail
  refine Calls.mono (spec_l01From cn _ _ (H.out.up (by repeat (first | exact Ext.refl _ | assumption | refine Ext.alloc ?_ _ | refine Ext.drew ?_ | refine Ext.drewN ?_ _ | refine Ext.setCell ?_ (by first | (simp; done) | (simp; omega) | omega) _ | refine Ext.trans ?_ (by assumption))))) ?_
  rintro e w1 ⟨rfl, hx1, hs1⟩
  rw [World.size_alloc] at hs1
  have Hs1 := Lib.hid (hs1.low (b1 := w.heap.size) (by omega) (H.out.ext (by repeat (first | exact Ext.refl _ | assumption | refine Ext.alloc ?_ _ | refine Ext.drew ?_ | refine Ext.drewN ?_ _ | refine Ext.setCell ?_ (by first | (simp; done) | (simp; omega) | omega) _ | refine Ext.trans ?_ (by assumption))) (Nat.le_refl _)))
  have hz1 := hx1.size
  rw [World.size_alloc] at hz1
  have HB1 := Lib.hid (Hb.out.ext hx1)
  have hxw1 : Ext w w1 := (by repeat (first | exact Ext.refl _ | assumption | refine Ext.alloc ?_ _ | refine Ext.drew ?_ | refine Ext.drewN ?_ _ | refine Ext.setCell ?_ (by first | (simp; done) | (simp; omega) | omega) _ | refine Ext.trans ?_ (by assumption)))
  clear hs1
  go_wp2_with fail
  refine Calls.mono (spec_l21Draw _ _ cn _ _ Hs1.out) ?_
  rintro e w2 ⟨s, k, n, rfl, hd2, hf, hN⟩
  have hx2 := hd2.old hxw1 (by omega)
  have hz2 := hd2.size
  have hgl := Hs1.out.lt
  have hb2 := HB1.out.drw hd2 (by omega)
  have HN := Lib.hid hN
  have Hf := Lib.hid hf
  obtain ⟨As, cs, rfl, _⟩ := HN.out.1.len
  obtain ⟨Ak, ck, rfl, _⟩ := HN.out.2.len
  obtain ⟨w3, hw3⟩ : ∃ w3 : World, w3 = w2.alloc (.cells #[.slice As n.sets.length cs, .slice Ak n.links.length ck] 27) := ⟨_, rfl⟩
  have hx3 : Ext w2 w3 := by rw [hw3]; exact (by repeat (first | exact Ext.refl _ | assumption | refine Ext.alloc ?_ _ | refine Ext.drew ?_ | refine Ext.drewN ?_ _ | refine Ext.setCell ?_ (by first | (simp; done) | (simp; omega) | omega) _ | refine Ext.trans ?_ (by assumption)))
  have hz3 : w3.heap.size = w2.heap.size + 1 := by rw [hw3]; simp
  have hbn : Boxed w3 w2.heap.size [.slice As n.sets.length cs, .slice Ak n.links.length ck] := by rw [hw3]; exact Boxed.new w2 [.slice As n.sets.length cs, .slice Ak n.links.length ck] 27
  have c0 := hbn.at0
  have c1 := hbn.at1
  have hS3 := Lib.hid (hd2.src.ext hx3)
  have HN3 := Lib.hid ((HN.out.ext hx3 (Nat.le_refl _)).wide (Nat.le_refl _) hx3.size)
  have HB3 := Lib.hid (hb2.ext hx3)
  have HBN := Lib.hid hbn
  clear hd2 hb2 hN hbn hf
  go_wp2_with fail
  rw [← hw3]
  clear hw3
  have hqg : w.heap.size ≠ w.heap.size + 1 := by omega
  have h02 : 0 < [Value.slice none 0 0, Value.slice none 0 0].length := by simp
  have h12 : 1 < [Value.slice none 0 0, Value.slice none 0 0].length := by simp
  have hw12 : w.heap.size + 1 < w1.heap.size := by omega
  have hw1q : w.heap.size < w1.heap.size := by omega
  go_wp2_with fail
  refine Calls.mono (spec_FindConflict _ _ n w3 HN3.out.read) ?_
  rintro e w4 ⟨v4, g4, rfl, hx4, hg4, ho4⟩
  obtain ⟨A4, c4, rfl⟩ := ho4.len
  have HI4 := Lib.hid (show Ints w4 w3.heap.size w4.heap.size (.slice A4 (fcL n).length c4) (fcL n) from ho4.row (fun h0 => ⟨hg4 h0, ho4.lt h0⟩))
  clear c0 c1 hg4 ho4
  have hz4 := hx4.size
  have hbn4 := HBN.out.ext hx4
  have c0 := hbn4.at0
  have c1 := hbn4.at1
  have hcg := hbn4.1
  have hS4 := Lib.hid (hS3.out.ext hx4)
  have HN4 := Lib.hid ((HN3.out.ext hx4 (Nat.le_refl _)).wide (Nat.le_refl _) hx4.size)
  have HB4 := Lib.hid (HB3.out.ext hx4)
  have HBN4 := Lib.hid hbn4
  clear hbn4
  by_cases he : fcE n = 0
  case neg =>
    have hef : (fcE n == 0) = false := by simpa using he
    have HBq := Lib.hid (HB4.out).drew
    have hSW := Lib.hid hS4.out
    have hw13 : w1.heap.size ≤ w4.heap.size := by omega
    go_wp2_with fail
    go_region_held3 (fun w' => DrwR w.heap.size (w.heap.size + 1) w.heap.size (.slice A cn c) cn w4 w' ∧ w'.cell? ⟨w2.heap.size, 0, none⟩ = some (.slice As n.sets.length cs) ∧ w'.cell? ⟨w2.heap.size, 1, none⟩ = some (.slice Ak n.links.length ck))
      (exact DrwR.keep2 (by repeat (first | exact DrwR.refl hSW.out | exact (by assumption : DrwR _ _ _ _ _ w4 _ ∧ _).1 | assumption | refine DrwR.drew ?_ | refine DrwR.alloc ?_ _ | refine DrwR.set ?_ (by omega) (by omega) _ _)) (by omega) (by omega) (by omega) c0 c1)
      (first
        | (go_at_call 55; refine Calls.mono (spec_l21DrawList _ _ cn w1.heap.size _ _ _ n _ (by assumption : DrwR _ _ _ _ _ w4 _ ∧ _).1.src ((by assumption : DrwR _ _ _ _ _ w4 _ ∧ _).1.net HN4.out hw12 hw1q) hw12 Hf.out) ?_; rintro e w8 ⟨v8, l8, rfl, hd8, hI8⟩; obtain ⟨A8, c8, rfl, _⟩ := hI8.len; have HI8 := Lib.hid (Row.mono hI8 (Nat.le_trans hw13 (by assumption : DrwR _ _ _ _ _ w4 _ ∧ _).1.size) (Nat.le_refl _)); have hD8 := (by assumption : DrwR _ _ _ _ _ w4 _ ∧ _).1.drw hd8; have hq8 := Boxed.drw (Hid.out (by assumption : Hid (Boxed _ w.heap.size [.slice none 0 0, .slice none 0 0]))) hd8 hqg; have q0 := hq8.at0; have q1 := hq8.at1; have qf0 := hq8.fz 0 h02; have qf1 := hq8.fz 1 h12; have qz := hq8.1; have Hq8 := Lib.hid hq8; clear hd8 hq8 hI8))
    have hR := (by assumption : DrwR _ _ _ _ _ w4 _ ∧ _).1
    have hE := hR.old (show Ext w w4 from ((hx2.trans hx3).trans hx4)) (by omega) (Nat.le_refl _)
    have hM := (hR.net HN4.out (by omega) (by omega)).wide (show w.heap.size ≤ _ by omega) (Nat.le_refl _)
    have hO : Off (One w.heap.size) w8 ((w8.setCell ⟨w.heap.size, 0, none⟩ (.slice As n.sets.length cs)).setCell ⟨w.heap.size, 1, none⟩ (.slice Ak n.links.length ck)) := Off.setCell (S := One w.heap.size) (p := ⟨w.heap.size, 1, none⟩) (Off.setCell (S := One w.heap.size) (p := ⟨w.heap.size, 0, none⟩) (Off.refl _ _) (.inl rfl) _) (.inl rfl) _
    have hI := (Row.off HI8.out hO (fun x h1 _ hh => by have e : x = w.heap.size := hh; omega) (Nat.le_refl _)).mono (show w.heap.size ≤ _ by omega) hO.size
    go_wp2_with fail
    refine bodyPost_ret (v := .tuple #[.agg #[.slice As n.sets.length cs, .slice Ak n.links.length ck], .slice A8 l8.length c8]) (by simp [results, Tryz.results8, go_sem, *]) rfl ?_
    exact ⟨_, _, _, n, l8, rfl, hE, Hf.out, hM, hI⟩
  rw [he]
  clear he
  go_wp2_with fail
  refine Calls.mono (spec_l01Next _ _ cn _ 3 _ hS4.out) ?_
  rintro e w5 ⟨r, rfl, -, hd5⟩
  clear c0 c1 hcg
  have hz5 := hd5.size
  have hbn5 := HBN4.out.drw hd5 (by omega)
  have c0 := hbn5.at0
  have c1 := hbn5.at1
  have hcg := hbn5.1
  have Hd5 := Lib.hid hd5
  have HBN5 := Lib.hid hbn5
  have HI5 := Lib.hid (show Ints w5 w3.heap.size w4.heap.size _ _ from Row.off HI4.out hd5.off (fun x h1 _ hh => by have e : x = w.heap.size + 1 := hh; omega) (Nat.le_refl _))
  have HN5 := Lib.hid ((DrwR.of (q := w.heap.size) hd5).net HN4.out (by omega) (by omega))
  have HB5 := Lib.hid (HB4.out.drw hd5 (by omega))
  have hS5 := Lib.hid hd5.src
  have hE5 := hd5.old (show Ext w w4 from (hx2.trans hx3).trans hx4) (by omega)
  clear hd5 hbn5
  by_cases hr : 0 < r
  case neg =>
    have hr0 : ¬ r > 0 := hr
    have HBq := Lib.hid (HB5.out).drew
    have hSW := Lib.hid hS5.out
    have hw13 : w1.heap.size ≤ w5.heap.size := by omega
    go_wp2_with fail
    go_region_held3 (fun w' => DrwR w.heap.size (w.heap.size + 1) w.heap.size (.slice A cn c) cn w5 w' ∧ w'.cell? ⟨w2.heap.size, 0, none⟩ = some (.slice As n.sets.length cs) ∧ w'.cell? ⟨w2.heap.size, 1, none⟩ = some (.slice Ak n.links.length ck))
      (exact DrwR.keep2 (by repeat (first | exact DrwR.refl hSW.out | exact (by assumption : DrwR _ _ _ _ _ w5 _ ∧ _).1 | assumption | refine DrwR.drew ?_ | refine DrwR.alloc ?_ _ | refine DrwR.set ?_ (by omega) (by omega) _ _)) (by omega) (by omega) (by omega) c0 c1)
      (first
        | (go_at_call 55; refine Calls.mono (spec_l21DrawList _ _ cn w1.heap.size _ _ _ n _ (by assumption : DrwR _ _ _ _ _ w5 _ ∧ _).1.src ((by assumption : DrwR _ _ _ _ _ w5 _ ∧ _).1.net HN5.out hw12 hw1q) hw12 Hf.out) ?_; rintro e w8 ⟨v8, l8, rfl, hd8, hI8⟩; obtain ⟨A8, c8, rfl, _⟩ := hI8.len; have HI8 := Lib.hid (Row.mono hI8 (Nat.le_trans hw13 (by assumption : DrwR _ _ _ _ _ w5 _ ∧ _).1.size) (Nat.le_refl _)); have hD8 := (by assumption : DrwR _ _ _ _ _ w5 _ ∧ _).1.drw hd8; have hq8 := Boxed.drw (Hid.out (by assumption : Hid (Boxed _ w.heap.size [.slice none 0 0, .slice none 0 0]))) hd8 hqg; have q0 := hq8.at0; have q1 := hq8.at1; have qf0 := hq8.fz 0 h02; have qf1 := hq8.fz 1 h12; have qz := hq8.1; have Hq8 := Lib.hid hq8; clear hd8 hq8 hI8))
    have hR := (by assumption : DrwR _ _ _ _ _ w5 _ ∧ _).1
    have hE := hR.old (show Ext w w5 from hE5) (by omega) (Nat.le_refl _)
    have hM := (hR.net HN5.out (by omega) (by omega)).wide (show w.heap.size ≤ _ by omega) (Nat.le_refl _)
    have hO : Off (One w.heap.size) w8 ((w8.setCell ⟨w.heap.size, 0, none⟩ (.slice As n.sets.length cs)).setCell ⟨w.heap.size, 1, none⟩ (.slice Ak n.links.length ck)) := Off.setCell (S := One w.heap.size) (p := ⟨w.heap.size, 1, none⟩) (Off.setCell (S := One w.heap.size) (p := ⟨w.heap.size, 0, none⟩) (Off.refl _ _) (.inl rfl) _) (.inl rfl) _
    have hI := (Row.off HI8.out hO (fun x h1 _ hh => by have e : x = w.heap.size := hh; omega) (Nat.le_refl _)).mono (show w.heap.size ≤ _ by omega) hO.size
    go_wp2_with fail
    refine bodyPost_ret (v := .tuple #[.agg #[.slice As n.sets.length cs, .slice Ak n.links.length ck], .slice A8 l8.length c8]) (by simp [results, Tryz.results8, go_sem, *]) rfl ?_
    exact ⟨_, _, _, n, l8, rfl, hE, Hf.out, hM, hI⟩
  go_wp2_with fail
  refine Calls.mono (spec_l01Next _ _ cn _ 3 _ hS5.out) ?_
  rintro e w6 ⟨r2, rfl, -, hd6⟩
  clear c0 c1 hcg
  have hz6 := hd6.size
  have hbn6 := HBN5.out.drw hd6 (by omega)
  have c0 := hbn6.at0
  have c1 := hbn6.at1
  have hcg := hbn6.1
  have HI6 := Lib.hid (Row.mono (show Ints w6 w3.heap.size w4.heap.size _ _ from Row.off HI5.out hd6.off (fun x h1 _ hh => by have e : x = w.heap.size + 1 := hh; omega) hz5) (Nat.le_refl _) (show w4.heap.size ≤ w6.heap.size by omega))
  have HN6 := Lib.hid ((DrwR.of (q := w.heap.size) hd6).net HN5.out (by omega) (by omega))
  have hbq := HB5.out.drw hd6 (by omega)
  have q0 := hbq.at0
  have q1 := hbq.at1
  have qf0 := hbq.fz 0 h02
  have qf1 := hbq.fz 1 h12
  have qz := hbq.1
  have hS6 := Lib.hid hd6.src
  have hE6 := hd6.old hE5 (by omega)
  clear hd6 hbn6 hbq
  by_cases z0 : r2 = 0
  · subst z0
    by_cases hl : 0 < (fcL n).length
    · have hli : (0 : Int) < ((fcL n).length : Int) := by omega
      have hl1 : (1 : Int) ≤ ((fcL n).length : Int) := by omega
      obtain ⟨rb, ro, hRa, _, hrb, _⟩ := Ints.at_ (i := 0) (show Ints w6 w3.heap.size w6.heap.size (.slice A4 (fcL n).length c4) (fcL n) from HI6.out) hl
      have HT6 := Lib.hid (Ints.tail2 (show Ints w6 w3.heap.size w6.heap.size (.slice A4 (fcL n).length c4) (fcL n) from HI6.out) hRa hl)
      subst hRa
      have hRcap := Ints.cap_le (show Ints w6 w3.heap.size w6.heap.size (.slice (some ⟨rb, ro, none⟩) (fcL n).length c4) (fcL n) from HI6.out)
      have hci : ((fcL n).length : Int) ≤ (c4 : Int) := by omega
      go_wp2_with fail
      go_region_held3 (fun w' => DrwR w.heap.size (w.heap.size + 1) w.heap.size (.slice A cn c) cn w6 w' ∧ w'.cell? ⟨w2.heap.size, 0, none⟩ = some (.slice As n.sets.length cs) ∧ w'.cell? ⟨w2.heap.size, 1, none⟩ = some (.slice Ak n.links.length ck))
        (exact DrwR.keep2 (by repeat (first | exact DrwR.refl hS6.out | exact (by assumption : DrwR _ _ _ _ _ w6 _ ∧ _).1 | assumption | refine DrwR.drew ?_ | refine DrwR.alloc ?_ _ | refine DrwR.set ?_ (by omega) (by omega) _ _)) (by omega) (by omega) (by omega) c0 c1)
        (fail)
      all_goals
        have hR := (by assumption : DrwR _ _ _ _ _ w6 _ ∧ _).1
        have hE := hR.old (show Ext w w6 from hE6) (by omega) (Nat.le_refl _)
        have hM := (hR.net HN6.out (by omega) (by omega)).wide (show w.heap.size ≤ _ by omega) (Nat.le_refl _)
        have hI := (Row.off HT6.out hR.off (fun x h1 _ hh => by rcases hh with hh | hh <;> omega) (Nat.le_refl _)).mono (show w.heap.size ≤ _ by omega) hR.size
        go_wp2_with fail
        all_goals
          refine bodyPost_ret (v := .tuple #[.agg #[.slice As n.sets.length cs, .slice Ak n.links.length ck], .slice (if c4 = 1 then some ⟨rb, ro, none⟩ else some ⟨rb, ro + 1, none⟩) ((fcL n).length - 1) (c4 - 1)]) (by simp [results, Tryz.results8, go_sem, *]) rfl ?_
          exact ⟨_, _, _, n, (fcL n).tail, rfl, hE, Hf.out, hM, hI⟩
    · have hl0 : ¬ (0 : Int) < ((fcL n).length : Int) := by omega
      have hl00 : decide ((0 : Int) < ((fcL n).length : Int)) = false := decide_eq_false hl0
      have hR : DrwR w.heap.size (w.heap.size + 1) w.heap.size (.slice A cn c) cn w6 ((w6.setCell ⟨w.heap.size, 0, none⟩ (.slice As n.sets.length cs)).setCell ⟨w.heap.size, 1, none⟩ (.slice Ak n.links.length ck)) := ((DrwR.refl hS6.out).set hqg (Nat.le_refl _) 0 _).set hqg (Nat.le_refl _) 1 _
      have hE := hR.old (show Ext w w6 from hE6) (by omega) (Nat.le_refl _)
      have hM := (hR.net HN6.out (by omega) (by omega)).wide (show w.heap.size ≤ _ by omega) (Nat.le_refl _)
      have hI := (Row.off HI6.out hR.off (fun x h1 _ hh => by rcases hh with hh | hh <;> omega) (Nat.le_refl _)).mono (show w.heap.size ≤ _ by omega) hR.size
      go_wp2_with fail
      all_goals
        refine bodyPost_ret (v := .tuple #[.agg #[.slice As n.sets.length cs, .slice Ak n.links.length ck], .slice A4 (fcL n).length c4]) (by simp [results, Tryz.results8, go_sem, *]) rfl ?_
        exact ⟨_, _, _, n, fcL n, rfl, hE, Hf.out, hM, hI⟩
  · have z0f : (r2 == 0) = false := by simpa using z0
    have hR : DrwR w.heap.size (w.heap.size + 1) w.heap.size (.slice A cn c) cn w6 ((w6.setCell ⟨w.heap.size, 0, none⟩ (.slice As n.sets.length cs)).setCell ⟨w.heap.size, 1, none⟩ (.slice Ak n.links.length ck)) := ((DrwR.refl hS6.out).set hqg (Nat.le_refl _) 0 _).set hqg (Nat.le_refl _) 1 _
    have hE := hR.old (show Ext w w6 from hE6) (by omega) (Nat.le_refl _)
    have hM := (hR.net HN6.out (by omega) (by omega)).wide (show w.heap.size ≤ _ by omega) (Nat.le_refl _)
    have hI := (Row.off HI6.out hR.off (fun x h1 _ hh => by rcases hh with hh | hh <;> omega) (Nat.le_refl _)).mono (show w.heap.size ≤ _ by omega) hR.size
    go_wp2_with fail
    all_goals
      refine bodyPost_ret (v := .tuple #[.agg #[.slice As n.sets.length cs, .slice Ak n.links.length ck], .slice A4 (fcL n).length c4]) (by simp [results, Tryz.results8, go_sem, *]) rfl ?_
      exact ⟨_, _, _, n, fcL n, rfl, hE, Hf.out, hM, hI⟩
set_option maxRecDepth 100000 in
set_option maxHeartbeats 8000000 in
theorem spec_DrawStatementText (cn : Nat) (cv : Value) (w : World) (h : Bytes w 0 w.heap.size cv cn) : Calls Tryz.prog 17 #[cv] w (DNetX w) := by
  obtain ⟨A, c, rfl, _⟩ := h.len
  have H := Lib.hid h
  clear h
  have Hb := Lib.hid (Boxed.new w [.slice none 0 0, .slice none 0 0] 27)
  go_enter Tryz.func17, Tryz.ntmps17
  go_wp2_with fail
  refine Calls.mono (spec_l01From cn _ _ (H.out.up (by repeat (first | exact Ext.refl _ | assumption | refine Ext.alloc ?_ _ | refine Ext.drew ?_ | refine Ext.drewN ?_ _ | refine Ext.setCell ?_ (by first | (simp; done) | (simp; omega) | omega) _ | refine Ext.trans ?_ (by assumption))))) ?_
  rintro e w1 ⟨rfl, hx1, hs1⟩
  rw [World.size_alloc] at hs1
  have Hs1 := Lib.hid (hs1.low (b1 := w.heap.size) (by omega) (H.out.ext (by repeat (first | exact Ext.refl _ | assumption | refine Ext.alloc ?_ _ | refine Ext.drew ?_ | refine Ext.drewN ?_ _ | refine Ext.setCell ?_ (by first | (simp; done) | (simp; omega) | omega) _ | refine Ext.trans ?_ (by assumption))) (Nat.le_refl _)))
  have hz1 := hx1.size
  rw [World.size_alloc] at hz1
  have HB1 := Lib.hid (Hb.out.ext hx1)
  have hxw1 : Ext w w1 := (by repeat (first | exact Ext.refl _ | assumption | refine Ext.alloc ?_ _ | refine Ext.drew ?_ | refine Ext.drewN ?_ _ | refine Ext.setCell ?_ (by first | (simp; done) | (simp; omega) | omega) _ | refine Ext.trans ?_ (by assumption)))
  clear hs1
  go_wp2_with fail
  refine Calls.mono (spec_l21Draw _ _ cn _ _ Hs1.out) ?_
  rintro e w2 ⟨s, k, n, rfl, hd2, hf, hN⟩
  have hx2 := hd2.old hxw1 (by omega)
  have hz2 := hd2.size
  have hgl := Hs1.out.lt
  have hb2 := HB1.out.drw hd2 (by omega)
  have HN := Lib.hid hN
  have Hf := Lib.hid hf
  obtain ⟨As, cs, rfl, _⟩ := HN.out.1.len
  obtain ⟨Ak, ck, rfl, _⟩ := HN.out.2.len
  obtain ⟨w3, hw3⟩ : ∃ w3 : World, w3 = w2.alloc (.cells #[.slice As n.sets.length cs, .slice Ak n.links.length ck] 27) := ⟨_, rfl⟩
  have hx3 : Ext w2 w3 := by rw [hw3]; exact (by repeat (first | exact Ext.refl _ | assumption | refine Ext.alloc ?_ _ | refine Ext.drew ?_ | refine Ext.drewN ?_ _ | refine Ext.setCell ?_ (by first | (simp; done) | (simp; omega) | omega) _ | refine Ext.trans ?_ (by assumption)))
  have hz3 : w3.heap.size = w2.heap.size + 1 := by rw [hw3]; simp
  have hbn : Boxed w3 w2.heap.size [.slice As n.sets.length cs, .slice Ak n.links.length ck] := by rw [hw3]; exact Boxed.new w2 [.slice As n.sets.length cs, .slice Ak n.links.length ck] 27
  have c0 := hbn.at0
  have c1 := hbn.at1
  have hS3 := Lib.hid (hd2.src.ext hx3)
  have HN3 := Lib.hid ((HN.out.ext hx3 (Nat.le_refl _)).wide (Nat.le_refl _) hx3.size)
  have HB3 := Lib.hid (hb2.ext hx3)
  have HBN := Lib.hid hbn
  clear hd2 hb2 hN hbn hf
  go_wp2_with fail
  rw [← hw3]
  clear hw3
  have hqg : w.heap.size ≠ w.heap.size + 1 := by omega
  have h02 : 0 < [Value.slice none 0 0, Value.slice none 0 0].length := by simp
  have h12 : 1 < [Value.slice none 0 0, Value.slice none 0 0].length := by simp
  have hw12 : w.heap.size + 1 < w1.heap.size := by omega
  have hw1q : w.heap.size < w1.heap.size := by omega
  have hb1 : n.sets.length ≤ 1000 := by have := Hf.out.1; omega
  have hb2 : n.links.length ≤ 1000 := by have := Hf.out.2; omega
  have W1 : IntKind.i64.wrap ((n.sets.length : Int) + n.links.length + 1) = (n.sets.length : Int) + n.links.length + 1 := IntWalk.i64_in _ (by omega)
  have HBq := Lib.hid (HB3.out).drew
  go_region_held3 (fun w' => DrwR w.heap.size (w.heap.size + 1) w.heap.size (.slice A cn c) cn w3 w' ∧ w'.cell? ⟨w2.heap.size, 0, none⟩ = some (.slice As n.sets.length cs) ∧ w'.cell? ⟨w2.heap.size, 1, none⟩ = some (.slice Ak n.links.length ck))
    (exact DrwR.keep2 (by repeat (first | exact DrwR.refl hS3.out | exact (by assumption : DrwR _ _ _ _ _ w3 _ ∧ _).1 | assumption | refine DrwR.drew ?_ | refine DrwR.alloc ?_ _ | refine DrwR.set ?_ (by omega) (by omega) _ _)) (by omega) (by omega) (by omega) c0 c1)
    (first
      | (go_at_call 65; refine Calls.mono (spec_l21Count _ _ n _ ((by assumption : DrwR _ _ _ _ _ w3 _ ∧ _).1.net HN3.out hw12 hw1q).read ⟨by omega, by omega⟩) ?_; rintro e w7 ⟨rfl, hx7⟩; have hD7 := (by assumption : DrwR _ _ _ _ _ w3 _ ∧ _).1.ext hx7; have hq7 := Boxed.ext (Hid.out (by assumption : Hid (Boxed _ w.heap.size [.slice none 0 0, .slice none 0 0]))) hx7; have q0 := hq7.at0; have q1 := hq7.at1; have qf0 := hq7.fz 0 h02; have qf1 := hq7.fz 1 h12; have qz := hq7.1; have Hq7 := Lib.hid hq7; clear hx7 hq7)
      | (go_at_call 54; refine Calls.mono (spec_l01Next _ _ cn _ _ _ (by assumption : DrwR _ _ _ _ _ w3 _ ∧ _).1.src) ?_; rintro e w8 ⟨r8, rfl, -, hd8⟩; have hD8 := (by assumption : DrwR _ _ _ _ _ w3 _ ∧ _).1.drw hd8; have hq8 := Boxed.drw (Hid.out (by assumption : Hid (Boxed _ w.heap.size [.slice none 0 0, .slice none 0 0]))) hd8 hqg; have q0 := hq8.at0; have q1 := hq8.at1; have qf0 := hq8.fz 0 h02; have qf1 := hq8.fz 1 h12; have qz := hq8.1; have Hq8 := Lib.hid hq8; clear hd8 hq8))
  have hR := (by assumption : DrwR _ _ _ _ _ w3 _ ∧ _).1
  have hE := hR.old (show Ext w w3 from hx2.trans hx3) (by omega) (Nat.le_refl _)
  have hM := (hR.net HN3.out (by omega) (by omega)).wide (show w.heap.size ≤ _ by omega) (Nat.le_refl _)
  go_wp2_with fail
  refine bodyPost_ret (v := .tuple #[.agg #[.slice As n.sets.length cs, .slice Ak n.links.length ck], .int .i64 _]) (by simp [results, Tryz.results17, go_sem, *]; exact rfl) rfl ?_
  exact ⟨_, _, n, _, rfl, hE, hM⟩
end Go.Proofs.YtfmnkojjkjkdeaaGreatDoor
