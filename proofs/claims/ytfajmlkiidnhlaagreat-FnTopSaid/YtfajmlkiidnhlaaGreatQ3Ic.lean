/- Texts merged (a claim holds at most sixty files): Ic, Fc, Sr, Ss. -/
import Derived.Test.YtfajmlkiidnhlaaGreatQ3De
import Derived.Test.YtfajmlkiidnhlaaGreatQ3Cf
import Derived.Deep.RegionLaw
/- Contracts: IsConflict. -/
namespace Go.Proofs.YtfajmlkiidnhlaaGreat
set_option linter.unusedVariables false
set_option linter.unusedSimpArgs false
open Go.RowKit
attribute [local go_sem] cell_onto

theorem Ints.of_own {w : World} {g : Nat} {v : Value} {l : List Int} (h : Own w g 1 v l.length (intCell l)) : Ints w 0 w.heap.size v l := h.row (fun h0 => ⟨Nat.zero_le _, h.lt h0⟩)
def ConfTo (n : Net) (l : List Int) (j : Nat) : Prop := conB n l = true ∧ ∀ i, i < j → conB n (l.eraseIdx i) = false
theorem ConfTo.step {n : Net} {l : List Int} {j : Nat} (h : ConfTo n l j) (h2 : conB n (l.eraseIdx j) = false) : ConfTo n l (j + 1) :=
  ⟨h.1, fun i hi => by
    by_cases e : i = j
    · subst e; exact h2
    · exact h.2 i (by omega)⟩
theorem stm_len {n : Net} {l : List Int} (h : NetOk n) (h2 : StmOk n l) : l.length ≤ 1048576 := by
  have h3 : ∀ i, i < l.length → (i : Int) ≤ inAt l i := by
    intro i
    induction i with
    | zero => intro hi; have := (h2 0 hi).1.1; omega
    | succ i ih =>
      intro hi
      have h4 := ih (by omega)
      have h5 := (h2 (i + 1) hi).2 (by omega)
      simp at h5
      omega
  rcases Nat.eq_zero_or_pos l.length with e | e
  · omega
  · have h4 := h3 (l.length - 1) (by omega)
    have h5 := (h2 (l.length - 1) (by omega)).1.2
    have h6 := h.1
    have h7 := h.2.1
    omega

set_option maxHeartbeats 4000000 in
theorem impl_IsConflict (s k v : Value) (n : Net) (l : List Int) (w : World) (h : NetIn w s k n) (hl : Ints w 0 w.heap.size v l) :
    Calls Tryz.prog 18 #[.agg #[s, k], v] w (RetX (.tuple #[.bool (confV n l), .int .i64 (blE n l)]) w) := by
  obtain ⟨A, c, rfl, hn, hc⟩ := hl.len
  have H := Lib.hid h
  have Hl := Lib.hid hl
  clear h hl
  go_enter Tryz.func18, Tryz.ntmps18
  go_wp2_with fail
  refine Calls.mono (impl_checkBlame s k _ n l _ (H.out.up (by repeat (first | exact Ext.refl _ | assumption | refine Ext.alloc ?_ _ | refine Ext.drew ?_ | refine Ext.drewN ?_ _ | refine Ext.setCell ?_ (by first | (simp; done) | (simp; omega) | omega) _ | refine Ext.trans ?_ (by assumption)))) (Hl.out.up (by repeat (first | exact Ext.refl _ | assumption | refine Ext.alloc ?_ _ | refine Ext.drew ?_ | refine Ext.drewN ?_ _ | refine Ext.setCell ?_ (by first | (simp; done) | (simp; omega) | omega) _ | refine Ext.trans ?_ (by assumption))))) ?_
  rintro e w1 ⟨rfl, hx1⟩
  have hb := (Boxed.new w [s, k] 27).ext hx1; have hb0 := hb.at0; have hb1 := hb.at1; have hbg := hb.1; have Hhb := Lib.hid hb; clear hb
  have hx : Ext w w1 := (by repeat (first | exact Ext.refl _ | assumption | refine Ext.alloc ?_ _ | refine Ext.drew ?_ | refine Ext.drewN ?_ _ | refine Ext.setCell ?_ (by first | (simp; done) | (simp; omega) | omega) _ | refine Ext.trans ?_ (by assumption)))
  clear hx1
  by_cases hc : blE n l = 0
  · have Hc := Lib.hid hc
    have Hok := Lib.hid (blE_zero hc).1
    have hll := stm_len (blE_zero hc).1 (blE_zero hc).2.1
    have hd : (blE n l != 0) = false := by rw [hc]; rfl
    have Hb1 : Hid (Boxed w1 w.heap.size [s, k]) := Lib.hid Hhb.out
    clear hc
    go_wp2_with fail
    refine Calls.mono (impl_contradict s k _ n l _ (H.out.up (by repeat (first | exact Ext.refl _ | assumption | refine Ext.alloc ?_ _ | refine Ext.drew ?_ | refine Ext.drewN ?_ _ | refine Ext.setCell ?_ (by first | (simp; done) | (simp; omega) | omega) _ | refine Ext.trans ?_ (by assumption)))) (Hl.out.up (by repeat (first | exact Ext.refl _ | assumption | refine Ext.alloc ?_ _ | refine Ext.drew ?_ | refine Ext.drewN ?_ _ | refine Ext.setCell ?_ (by first | (simp; done) | (simp; omega) | omega) _ | refine Ext.trans ?_ (by assumption)))) Hok.out) ?_
    rintro e w2 ⟨rfl, hx2⟩
    have hxw2 : Ext w w2 := (by repeat (first | exact Ext.refl _ | assumption | refine Ext.alloc ?_ _ | refine Ext.drew ?_ | refine Ext.drewN ?_ _ | refine Ext.setCell ?_ (by first | (simp; done) | (simp; omega) | omega) _ | refine Ext.trans ?_ (by assumption)))
    cases hcb : conB n l
    · have Hv := Lib.hid ((confV_ok Hc.out).trans (B_false (fun hh => by have := hh.1; rw [hcb] at this; cases this)))
      clear hcb
      go_wp2_with fail
      go_ret2
      exact ⟨by rw [Hv.out, Hc.out]; rfl, (by repeat (first | exact Ext.refl _ | assumption | refine Ext.alloc ?_ _ | refine Ext.drew ?_ | refine Ext.drewN ?_ _ | refine Ext.setCell ?_ (by first | (simp; done) | (simp; omega) | omega) _ | refine Ext.trans ?_ (by assumption)))⟩
    · have Hcb := Lib.hid hcb
      have Hb2 := Lib.hid (Hb1.out.ext hx2)
      clear hcb hb0 hb1 hbg Hhb Hb1
      go_wp2_with fail
      go_loopg [7, 20] l.length (fun q u7 i wr => ∃ j : Nat, j + q = l.length ∧ i = .int .i64 j ∧ Ext w wr ∧ Boxed wr w.heap.size [s, k] ∧ Hid (ConfTo n l j))
      case atStart => exact ⟨0, by omega, rfl, (by repeat (first | exact Ext.refl _ | assumption | refine Ext.alloc ?_ _ | refine Ext.drew ?_ | refine Ext.drewN ?_ _ | refine Ext.setCell ?_ (by first | (simp; done) | (simp; omega) | omega) _ | refine Ext.trans ?_ (by assumption))), Hb2.out, Lib.hid ⟨Hcb.out, fun i hi => absurd hi (by omega)⟩⟩
      case round =>
        obtain ⟨j, hj, rfl, hxr, hnb, Hto⟩ := hrel
        have nb := hnb; have nb0 := nb.at0; have nb1 := nb.at1; have nbg := nb.1; have Hnb := Lib.hid nb; clear nb
        clear hnb
        by_cases hlt : j < l.length
        · go_wp2_with fail
          go_region_law (first
            | (go_simp; go_at_call 45; refine Calls.mono (impl_lessOne _ l j _ (Hl.out.up (by repeat (first | exact Ext.refl _ | assumption | refine Ext.alloc ?_ _ | refine Ext.drew ?_ | refine Ext.drewN ?_ _ | refine Ext.setCell ?_ (by first | (simp; done) | (simp; omega) | omega) _ | refine Ext.trans ?_ (by assumption)))) hlt hll) ?_; rintro e wc ⟨uv, g, rfl, hxc, hgc, huc⟩; have Huc := Lib.hid (Ints.of_own huc); have hxwc : Ext wr wc := (by repeat (first | exact Ext.refl _ | assumption | refine Ext.alloc ?_ _ | refine Ext.drew ?_ | refine Ext.drewN ?_ _ | refine Ext.setCell ?_ (by first | (simp; done) | (simp; omega) | omega) _ | refine Ext.trans ?_ (by assumption))); have cb := Hnb.out.ext hxwc; have cb0 := cb.at0; have cb1 := cb.at1; have cbg := cb.1; have Hcb := Lib.hid cb; clear cb; clear hgc huc)
            | (go_simp; go_at_call 47; refine Calls.mono (impl_contradict s k uv n (l.eraseIdx j) _ (H.out.up (by repeat (first | exact Ext.refl _ | assumption | refine Ext.alloc ?_ _ | refine Ext.drew ?_ | refine Ext.drewN ?_ _ | refine Ext.setCell ?_ (by first | (simp; done) | (simp; omega) | omega) _ | refine Ext.trans ?_ (by assumption)))) (Huc.out.up (by repeat (first | exact Ext.refl _ | assumption | refine Ext.alloc ?_ _ | refine Ext.drew ?_ | refine Ext.drewN ?_ _ | refine Ext.setCell ?_ (by first | (simp; done) | (simp; omega) | omega) _ | refine Ext.trans ?_ (by assumption)))) Hok.out) ?_; rintro e w3 ⟨rfl, hxb⟩))
          all_goals
            have hx23 : Ext wr w3 := (by repeat (first | exact Ext.refl _ | assumption | refine Ext.alloc ?_ _ | refine Ext.drew ?_ | refine Ext.drewN ?_ _ | refine Ext.setCell ?_ (by first | (simp; done) | (simp; omega) | omega) _ | refine Ext.trans ?_ (by assumption)))
            have hxw3 : Ext w w3 := hxr.trans hx23
            have Hb3 := Lib.hid (Hnb.out.ext hx23)
            cases hcj : conB n (l.eraseIdx j)
            · have Hcj := Lib.hid hcj
              clear hcj
              go_wp2_with fail
              go_roundg (l.length - (j + 1))
              case measure => omega
              case rel => exact ⟨j + 1, by omega, by go_num, (by repeat (first | exact Ext.refl _ | assumption | refine Ext.alloc ?_ _ | refine Ext.drew ?_ | refine Ext.drewN ?_ _ | refine Ext.setCell ?_ (by first | (simp; done) | (simp; omega) | omega) _ | refine Ext.trans ?_ (by assumption))), Hb3.out.ext (by repeat (first | exact Ext.refl _ | assumption | refine Ext.alloc ?_ _ | refine Ext.drew ?_ | refine Ext.drewN ?_ _ | refine Ext.setCell ?_ (by first | (simp; done) | (simp; omega) | omega) _ | refine Ext.trans ?_ (by assumption))), Lib.hid (Hto.out.step Hcj.out)⟩
            · have Hv := Lib.hid ((confV_ok Hc.out).trans (B_false (fun hh => by have := hh.2 j hlt; rw [hcj] at this; cases this)))
              clear hcj
              go_wp2_with fail
              go_ret2
              exact ⟨by rw [Hv.out, Hc.out]; rfl, (by repeat (first | exact Ext.refl _ | assumption | refine Ext.alloc ?_ _ | refine Ext.drew ?_ | refine Ext.drewN ?_ _ | refine Ext.setCell ?_ (by first | (simp; done) | (simp; omega) | omega) _ | refine Ext.trans ?_ (by assumption)))⟩
        · obtain rfl : j = l.length := by omega
          have Hv := Lib.hid ((confV_ok Hc.out).trans (B_true Hto.out))
          go_wp2_with fail
          go_ret2
          exact ⟨by rw [Hv.out, Hc.out]; rfl, (by repeat (first | exact Ext.refl _ | assumption | refine Ext.alloc ?_ _ | refine Ext.drew ?_ | refine Ext.drewN ?_ _ | refine Ext.setCell ?_ (by first | (simp; done) | (simp; omega) | omega) _ | refine Ext.trans ?_ (by assumption)))⟩
  · have Hc := Lib.hid hc
    have hd : (blE n l != 0) = true := by simp [hc]
    clear hc
    go_wp2_with fail
    go_ret2
    exact ⟨by rw [confV_no Hc.out]; rfl, (by repeat (first | exact Ext.refl _ | assumption | refine Ext.alloc ?_ _ | refine Ext.drew ?_ | refine Ext.drewN ?_ _ | refine Ext.setCell ?_ (by first | (simp; done) | (simp; omega) | omega) _ | refine Ext.trans ?_ (by assumption)))⟩
end Go.Proofs.YtfajmlkiidnhlaaGreat

/- Contracts: FindConflict. -/
namespace Go.Proofs.YtfajmlkiidnhlaaGreat
set_option linter.unusedVariables false
set_option linter.unusedSimpArgs false
open Go.RowKit
attribute [local go_sem] cell_onto

set_option maxHeartbeats 1000000 in
theorem slices_Index_at (v : Value) (l : List Int) (x : Int) (p : Nat) (w : World) (h : Ints w 0 w.heap.size v l) (hp : p < l.length) (hx : inAt l p = x) (hlt : ∀ i, i < p → inAt l i ≠ x) :
    Calls Tryz.prog 46 #[v, .int .i64 x] w (RetX (.int .i64 p) w) := by
  obtain ⟨A, c, rfl, hn, hc⟩ := h.len
  have H := Lib.hid h
  have Hx := Lib.hid hx
  have Hl := Lib.hid hlt
  clear h hx hlt
  go_enter Tryz.func46, Tryz.ntmps46
  go_wp2_with fail
  go_loopg [5, 8] (p + 1) (fun k u i wr => ∃ j : Nat, j + k = p + 1 ∧ j ≤ p ∧ i = .int .i64 j ∧ Ext w wr)
  case atStart => exact ⟨0, by omega, by omega, rfl, Ext.refl _⟩
  case round =>
    obtain ⟨j, hj, hjp, rfl, hxr⟩ := hrel
    have hlt : j < l.length := by omega
    obtain ⟨b, off, rfl, _, hb, h1⟩ := (H.out.ext hxr (Nat.le_refl _)).at_ hlt
    by_cases e : j = p
    · subst e
      have e1 : (x == inAt l j) = true := by simp [Hx.out]
      go_wp2_with fail
      go_ret
      exact ⟨rfl, (by repeat (first | exact Ext.refl _ | assumption | refine Ext.alloc ?_ _ | refine Ext.drew ?_ | refine Ext.drewN ?_ _ | refine Ext.setCell ?_ (by first | (simp; done) | (simp; omega) | omega) _ | refine Ext.trans ?_ (by assumption)))⟩
    · have e1 : (x == inAt l j) = false := by simp; exact fun h => Hl.out j (by omega) h.symm
      have hjp2 : j < p := by omega
      clear e
      go_wp2_with fail
      go_roundg (p + 1 - (j + 1))
      case measure => omega
      case rel => exact ⟨j + 1, by omega, by omega, by go_num, (by repeat (first | exact Ext.refl _ | assumption | refine Ext.alloc ?_ _ | refine Ext.drew ?_ | refine Ext.drewN ?_ _ | refine Ext.setCell ?_ (by first | (simp; done) | (simp; omega) | omega) _ | refine Ext.trans ?_ (by assumption)))⟩
/-- the list under way -/
def FcSt (n : Net) (lo k : Nat) (u : Value) (w : World) : Prop := ∃ g, Own w g 1 u (outL n k).length (intCell (outL n k)) ∧ (0 < (outL n k).length → lo ≤ g)
theorem FcSt.ext {n : Net} {lo k : Nat} {u : Value} {w w' : World} (h : FcSt n lo k u w) (hx : Ext w w') : FcSt n lo k u w' := by
  obtain ⟨g, h1, h2⟩ := h
  exact ⟨g, h1.ext hx, h2⟩
theorem FcSt.ints {n : Net} {lo k : Nat} {u : Value} {w : World} (h : FcSt n lo k u w) : Ints w 0 w.heap.size u (outL n k) := by
  obtain ⟨g, h1, _⟩ := h
  exact Ints.of_own h1
theorem FcSt.of_list {n : Net} {lo k g : Nat} {u : Value} {w : World} {l : List Int} (h : Own w g 1 u l.length (intCell l)) (hg : 0 < l.length → lo ≤ g) (e : outL n k = l) : FcSt n lo k u w := by
  unfold FcSt
  rw [e]
  exact ⟨g, h, hg⟩
theorem outL_small {n : Net} (h : NetOk n) (k : Nat) (hk : k ≤ allS n) : (outL n k).length ≤ 28 := by
  rw [outL_len]
  have h1 := kept_len n k
  have h2 := h.1
  have h3 := h.2.1
  unfold allS at *
  omega

set_option maxHeartbeats 8000000 in
theorem impl_FindConflict (s k : Value) (n : Net) (w : World) (h : NetIn w s k n) : Calls Tryz.prog 9 #[.agg #[s, k]] w (NewInts2 (fcL n) (fcE n) w) := by
  have H := Lib.hid h
  clear h
  go_enter Tryz.func9, Tryz.ntmps9
  go_wp2_with fail
  refine Calls.mono (impl_checkBlame s k _ n [] _ (H.out.up (by repeat (first | exact Ext.refl _ | assumption | refine Ext.alloc ?_ _ | refine Ext.drew ?_ | refine Ext.drewN ?_ _ | refine Ext.setCell ?_ (by first | (simp; done) | (simp; omega) | omega) _ | refine Ext.trans ?_ (by assumption)))) (nilInts _)) ?_
  rintro e w1 ⟨rfl, hx1⟩
  have hb := (Boxed.new w [s, k] 27).ext hx1; have hb0 := hb.at0; have hb1 := hb.at1; have hbg := hb.1; have Hhb := Lib.hid hb; clear hb
  have hx : Ext w w1 := (by repeat (first | exact Ext.refl _ | assumption | refine Ext.alloc ?_ _ | refine Ext.drew ?_ | refine Ext.drewN ?_ _ | refine Ext.setCell ?_ (by first | (simp; done) | (simp; omega) | omega) _ | refine Ext.trans ?_ (by assumption)))
  have Hb1 : Hid (Boxed w1 w.heap.size [s, k]) := Lib.hid Hhb.out
  have hzs : w.heap.size < w1.heap.size := Hb1.out.1
  clear hx1
  by_cases hc : blE n [] = 0
  · have Hc := Lib.hid hc
    have Hok := Lib.hid (blE_zero hc).1
    have h8 := (blE_zero hc).1.1
    have h20 := (blE_zero hc).1.2.1
    have hd : (blE n [] != 0) = false := by rw [hc]; rfl
    obtain ⟨N, hN⟩ : ∃ N, N = allS n := ⟨_, rfl⟩
    have HN := Lib.hid hN
    have hN28 : N ≤ 28 := by rw [hN]; unfold allS; omega
    clear hc hN
    go_wp2_with fail
    refine Calls.mono (impl_isSolvable s k n _ (H.out.up (by repeat (first | exact Ext.refl _ | assumption | refine Ext.alloc ?_ _ | refine Ext.drew ?_ | refine Ext.drewN ?_ _ | refine Ext.setCell ?_ (by first | (simp; done) | (simp; omega) | omega) _ | refine Ext.trans ?_ (by assumption)))) (NetFit.of Hok.out)) ?_
    rintro e w2 ⟨rfl, hx2⟩
    have hxw2 : Ext w w2 := (by repeat (first | exact Ext.refl _ | assumption | refine Ext.alloc ?_ _ | refine Ext.drew ?_ | refine Ext.drewN ?_ _ | refine Ext.setCell ?_ (by first | (simp; done) | (simp; omega) | omega) _ | refine Ext.trans ?_ (by assumption)))
    have Hb2 := Lib.hid (Hb1.out.ext hx2)
    have hz12 := hx2.size
    clear hb0 hb1 hbg Hhb Hb1 hx2
    have hb := Hb2.out; have hb0 := hb.at0; have hb1 := hb.at1; have hbg := hb.1; have Hhb := Lib.hid hb; clear hb
    by_cases hs : Sol n
    · have Hv := Lib.hid (fc_sol Hc.out hs)
      rw [B_true hs]
      clear hs
      go_wp2_with fail
      go_ret2
      rw [Hv.out.1, Hv.out.2]
      exact NewInts2.nil 4 (by repeat (first | exact Ext.refl _ | assumption | refine Ext.alloc ?_ _ | refine Ext.drew ?_ | refine Ext.drewN ?_ _ | refine Ext.setCell ?_ (by first | (simp; done) | (simp; omega) | omega) _ | refine Ext.trans ?_ (by assumption)))
    · have Hv := Lib.hid (fc_ok Hc.out hs)
      rw [B_false hs]
      clear hs
      have Hrow0 : Hid ((w2.alloc (.cells #[] 2)).ownsRow w2.heap.size 2 1 (.slice (some ⟨w2.heap.size, 0, none⟩) 0 0) 0 (cellsOf (0 * 1) (intCell []))) := Lib.hid (by
        have := World.ownsRow_made (base := w2.heap.size) (e := 2) (size := 1) w2 #[] 0 (by simp) (Nat.zero_le _) rfl
        simpa [cellsOf] using this)
      go_wp2_with fail
      refine Calls.mono (impl_statementsOf s k n _ (H.out.up (by repeat (first | exact Ext.refl _ | assumption | refine Ext.alloc ?_ _ | refine Ext.drew ?_ | refine Ext.drewN ?_ _ | refine Ext.setCell ?_ (by first | (simp; done) | (simp; omega) | omega) _ | refine Ext.trans ?_ (by assumption)))) ⟨by omega, by omega⟩) ?_
      rintro e w3 ⟨rfl, hx3⟩
      have e1 : (n.sets.length : Int) + n.links.length = (N : Int) := by rw [HN.out]; unfold allS; omega
      rw [e1]
      have Hrow1 := Lib.hid (row_ext Hrow0.out hx3)
      have Hb3 := Lib.hid (Hb2.out.ext (((Ext.refl w2).alloc _).trans hx3))
      have hxw3 : Ext w w3 := (by repeat (first | exact Ext.refl _ | assumption | refine Ext.alloc ?_ _ | refine Ext.drew ?_ | refine Ext.drewN ?_ _ | refine Ext.setCell ?_ (by first | (simp; done) | (simp; omega) | omega) _ | refine Ext.trans ?_ (by assumption)))
      have hz13 : w2.heap.size ≤ w3.heap.size := by have := hx3.size; simp at this; omega
      clear hb0 hb1 hbg Hhb Hb2 Hrow0 hx3
      have hb := Hb3.out; have hb0 := hb.at0; have hb1 := hb.at1; have hbg := hb.1; have Hhb := Lib.hid hb; clear hb
      go_wp2_with fail
      go_loopg [5, 6, 19] N (fun q u5 u6 i wr => ∃ j : Nat, j + q = N ∧ i = .int .i64 j ∧ Ext w wr ∧ w2.heap.size ≤ wr.heap.size ∧ Boxed wr w.heap.size [s, k] ∧
        wr.ownsRow w2.heap.size 2 1 u5 (rgI 0 j).length (cellsOf ((rgI 0 j).length * 1) (intCell (rgI 0 j))))
      case atStart => exact ⟨0, by omega, rfl, (by repeat (first | exact Ext.refl _ | assumption | refine Ext.alloc ?_ _ | refine Ext.drew ?_ | refine Ext.drewN ?_ _ | refine Ext.setCell ?_ (by first | (simp; done) | (simp; omega) | omega) _ | refine Ext.trans ?_ (by assumption))), hz13, Hb3.out, Hrow1.out⟩
      clear hb0 hb1 hbg Hhb
      case round =>
        obtain ⟨j, hj, rfl, hxr, hz1r, hnb, hown⟩ := hrel
        have nb := hnb; have nb0 := nb.at0; have nb1 := nb.at1; have nbg := nb.1; have Hnb := Lib.hid nb; clear nb
        have Hown := Lib.hid hown
        have hol := rgI_len 0 j
        clear hown hnb
        by_cases hlt : j < N
        · have T1 : decide ((j : Int) < (N : Int)) = true := decide_eq_true (by omega)
          have T2 : decide (j < N) = true := decide_eq_true hlt
          have Hsn : Hid (rgI 0 (j + 1) = rgI 0 j ++ [(j : Int)]) := Lib.hid (by rw [rgI_snoc]; simp)
          go_wp2_with (at_builtin; refine wpList_append_row _ rfl _ _ 31 rfl w2.heap.size 2 1 8 Tryz.underlying31 (by kernel_rfl) (by omega) _ (rgI 0 j).length 1 _ rfl (.inl (row_ext Hown.out (by repeat (first | exact Ext.refl _ | assumption | refine Ext.alloc ?_ _ | refine Ext.drew ?_ | refine Ext.drewN ?_ _ | refine Ext.setCell ?_ (by first | (simp; done) | (simp; omega) | omega) _ | refine Ext.trans ?_ (by assumption))))) (.inr (by omega)) 0 _ _ (intCell [(j : Int)]) rfl ((Boxed.new wr [.int .i64 (j : Int)] 2).row rfl (int_cells _)) (fun _ _ => rfl) (by unfold maxLen; omega) (by omega) (by simp; omega) ?_; intro v5 w5 hown5 hput5)
          go_roundg (N - (j + 1))
          case measure => omega
          case rel =>
            have hxb : Ext w (wr.alloc (.cells #[.int .i64 (j : Int)] 2)) := (by repeat (first | exact Ext.refl _ | assumption | refine Ext.alloc ?_ _ | refine Ext.drew ?_ | refine Ext.drewN ?_ _ | refine Ext.setCell ?_ (by first | (simp; done) | (simp; omega) | omega) _ | refine Ext.trans ?_ (by assumption)))
            exact ⟨j + 1, by omega, by go_num, hput5.ext hxb (by omega), by have := hput5.size; simp at this; omega, (Hnb.out.ext (show Ext wr (wr.alloc (.cells #[.int .i64 (j : Int)] 2)) from (by repeat (first | exact Ext.refl _ | assumption | refine Ext.alloc ?_ _ | refine Ext.drew ?_ | refine Ext.drewN ?_ _ | refine Ext.setCell ?_ (by first | (simp; done) | (simp; omega) | omega) _ | refine Ext.trans ?_ (by assumption))))).off hput5.1 (fun hh => by have := hh.1; omega), by rw [Hsn.out, ← intCells_push, List.length_append]; exact hown5⟩
        · obtain rfl : j = N := by omega
          have T1 : decide ((j : Int) < (j : Int)) = false := decide_eq_false (by omega)
          have Hst0 : Hid (FcSt n w.heap.size 0 u5 wr) := Lib.hid (by
            obtain ⟨g, hg, ho⟩ := Own.of_owned Hown.out
            exact FcSt.of_list ho (fun h0 => by have := (hg h0).2; omega) (by rw [outL_zero, ← HN.out]))
          clear Hown
          go_wp2_with fail
          refine Calls.mono (impl_statementsOf s k n _ (H.out.up hxr) ⟨by omega, by omega⟩) ?_
          rintro e w4 ⟨rfl, hx4⟩
          rw [e1]
          have Hst1 := Lib.hid (Hst0.out.ext hx4)
          have Hb4 := Lib.hid (Hnb.out.ext hx4)
          have hxw4 : Ext w w4 := (by repeat (first | exact Ext.refl _ | assumption | refine Ext.alloc ?_ _ | refine Ext.drew ?_ | refine Ext.drewN ?_ _ | refine Ext.setCell ?_ (by first | (simp; done) | (simp; omega) | omega) _ | refine Ext.trans ?_ (by assumption)))
          clear nb0 nb1 nbg Hnb Hst0 hx4
          go_wp2_with fail
          go_loopg [5, 7, 8, 29] j (fun q u5 u7 u8 i wr => ∃ t : Nat, t + q = j ∧ i = .int .i64 t ∧ Ext w wr ∧ Boxed wr w.heap.size [s, k] ∧ Hid (FcSt n w.heap.size t u5 wr))
          case atStart => exact ⟨0, by omega, rfl, (by repeat (first | exact Ext.refl _ | assumption | refine Ext.alloc ?_ _ | refine Ext.drew ?_ | refine Ext.drewN ?_ _ | refine Ext.setCell ?_ (by first | (simp; done) | (simp; omega) | omega) _ | refine Ext.trans ?_ (by assumption))), Hb4.out, Hst1⟩
          case round =>
            obtain ⟨t, ht, rfl, hxr, hnb, Hst⟩ := hrel
            have nb := hnb; have nb0 := nb.at0; have nb1 := nb.at1; have nbg := nb.1; have Hnb := Lib.hid nb; clear nb
            clear hnb
            by_cases hlt : t < j
            · have T3 : decide ((t : Int) < (j : Int)) = true := decide_eq_true (by omega)
              have T4 : decide (t < j) = true := decide_eq_true hlt
              have Hta := Lib.hid (show t < allS n by rw [← HN.out]; exact hlt)
              have hsm := outL_small Hok.out t (by have := Hta.out; omega)
              have Hix := Lib.hid (outL_index Hta.out)
              have hkl : (kept n t).length < (outL n t).length := by rw [outL_len]; have := Hta.out; omega
              go_wp2_with fail
              refine Calls.mono (slices_Index_at _ (outL n t) (t : Int) (kept n t).length _ Hst.out.ints hkl Hix.out.1 Hix.out.2) ?_
              rintro e w5 ⟨rfl, hx5⟩
              have Hst5 := Lib.hid (Hst.out.ext hx5)
              go_wp2_with fail
              refine Calls.mono (impl_lessOne _ (outL n t) (kept n t).length _ Hst5.out.ints hkl (by omega)) ?_
              rintro e w6 ⟨uv, g6, rfl, hx6, hg6, hu6⟩
              have Hu6 := Lib.hid hu6
              have hz56 := hx5.size
              have hzr := hxr.size
              have Hg6 := Lib.hid (show 0 < ((outL n t).eraseIdx (kept n t).length).length → w.heap.size ≤ g6 from fun h0 => by have := hg6 h0; omega)
              have Hst6 := Lib.hid (Hst5.out.ext hx6)
              have Hb6 := Lib.hid (Hnb.out.ext (hx5.trans hx6))
              have hxw6 : Ext w w6 := (by repeat (first | exact Ext.refl _ | assumption | refine Ext.alloc ?_ _ | refine Ext.drew ?_ | refine Ext.drewN ?_ _ | refine Ext.setCell ?_ (by first | (simp; done) | (simp; omega) | omega) _ | refine Ext.trans ?_ (by assumption)))
              clear nb0 nb1 nbg Hnb hu6 hg6 hx5 hx6 Hst Hst5
              have nb := Hb6.out; have nb0 := nb.at0; have nb1 := nb.at1; have nbg := nb.1; have Hnb := Lib.hid nb; clear nb
              go_wp2_with fail
              refine Calls.mono (impl_contradict s k uv n ((outL n t).eraseIdx (kept n t).length) _ (H.out.up hxw6) (Ints.of_own Hu6.out) Hok.out) ?_
              rintro e w7 ⟨rfl, hx7⟩
              have hxw7 : Ext w w7 := (by repeat (first | exact Ext.refl _ | assumption | refine Ext.alloc ?_ _ | refine Ext.drew ?_ | refine Ext.drewN ?_ _ | refine Ext.setCell ?_ (by first | (simp; done) | (simp; omega) | omega) _ | refine Ext.trans ?_ (by assumption)))
              have Hb7 := Lib.hid (Hnb.out.ext hx7)
              cases hcj : conB n ((outL n t).eraseIdx (kept n t).length)
              · have He := Lib.hid (outL_no Hta.out hcj)
                have Hst7 := Lib.hid (Hst6.out.ext hx7)
                clear hcj
                go_wp2_with fail
                go_roundg (j - (t + 1))
                case measure => omega
                case rel => exact ⟨t + 1, by omega, by go_num, (by repeat (first | exact Ext.refl _ | assumption | refine Ext.alloc ?_ _ | refine Ext.drew ?_ | refine Ext.drewN ?_ _ | refine Ext.setCell ?_ (by first | (simp; done) | (simp; omega) | omega) _ | refine Ext.trans ?_ (by assumption))), Hb7.out, Lib.hid (by unfold FcSt; rw [He.out.1]; exact Hst7.out)⟩
              · have He := Lib.hid (outL_yes Hta.out hcj)
                have Hst7 := Lib.hid (FcSt.of_list (n := n) (Hu6.out.ext hx7) Hg6.out He.out.1)
                clear hcj
                go_wp2_with fail
                go_roundg (j - (t + 1))
                case measure => omega
                case rel => exact ⟨t + 1, by omega, by go_num, (by repeat (first | exact Ext.refl _ | assumption | refine Ext.alloc ?_ _ | refine Ext.drew ?_ | refine Ext.drewN ?_ _ | refine Ext.setCell ?_ (by first | (simp; done) | (simp; omega) | omega) _ | refine Ext.trans ?_ (by assumption))), Hb7.out, Hst7⟩
            · obtain rfl : t = j := by omega
              have T3 : decide ((t : Int) < (t : Int)) = false := decide_eq_false (by omega)
              have HN2 : Hid (t = allS n) := Lib.hid HN.out
              go_wp2_with fail
              go_ret2
              obtain ⟨g, h1, h2⟩ := Hst.out
              rw [HN2.out] at h1 h2
              rw [Hv.out.1, Hv.out.2]
              exact ⟨_, g, rfl, (by repeat (first | exact Ext.refl _ | assumption | refine Ext.alloc ?_ _ | refine Ext.drew ?_ | refine Ext.drewN ?_ _ | refine Ext.setCell ?_ (by first | (simp; done) | (simp; omega) | omega) _ | refine Ext.trans ?_ (by assumption))), h2, h1⟩
  · have Hc := Lib.hid (fc_code hc)
    have hd : (blE n [] != 0) = true := by simp [hc]
    clear hc
    go_wp2_with fail
    go_ret2
    rw [Hc.out.1, Hc.out.2]
    exact NewInts2.nil _ (by repeat (first | exact Ext.refl _ | assumption | refine Ext.alloc ?_ _ | refine Ext.drew ?_ | refine Ext.drewN ?_ _ | refine Ext.setCell ?_ (by first | (simp; done) | (simp; omega) | omega) _ | refine Ext.trans ?_ (by assumption)))
set_option maxHeartbeats 8000000 in
theorem spec_FindConflict (s k : Value) (n : Net) (w : World) (h : NetIn w s k n) : Calls Tryz.prog 10 #[.agg #[s, k]] w (NewInts2 (fcL n) (fcE n) w) := by
  have H := Lib.hid h
  clear h
  go_enter Tryz.func10, Tryz.ntmps10
  go_wp2_with fail
  refine Calls.mono (spec_l21Code s k _ n [] _ (H.out.up (by repeat (first | exact Ext.refl _ | assumption | refine Ext.alloc ?_ _ | refine Ext.drew ?_ | refine Ext.drewN ?_ _ | refine Ext.setCell ?_ (by first | (simp; done) | (simp; omega) | omega) _ | refine Ext.trans ?_ (by assumption)))) (nilInts _)) ?_
  rintro e w1 ⟨rfl, hx1⟩
  have hb := (Boxed.new w [s, k] 27).ext hx1; have hb0 := hb.at0; have hb1 := hb.at1; have hbg := hb.1; have Hhb := Lib.hid hb; clear hb
  have hx : Ext w w1 := (by repeat (first | exact Ext.refl _ | assumption | refine Ext.alloc ?_ _ | refine Ext.drew ?_ | refine Ext.drewN ?_ _ | refine Ext.setCell ?_ (by first | (simp; done) | (simp; omega) | omega) _ | refine Ext.trans ?_ (by assumption)))
  have Hb1 : Hid (Boxed w1 w.heap.size [s, k]) := Lib.hid Hhb.out
  have hzs : w.heap.size < w1.heap.size := Hb1.out.1
  clear hx1
  by_cases hc : blE n [] = 0
  · have Hc := Lib.hid hc
    have Hok := Lib.hid (blE_zero hc).1
    have Hbl := Lib.hid (blE_zero hc).2.2
    have hd : (blE n [] != 0) = false := by rw [hc]; rfl
    clear hc
    go_wp2_with fail
    refine Calls.mono (spec_l21Others s k _ n [] _ (H.out.up (by repeat (first | exact Ext.refl _ | assumption | refine Ext.alloc ?_ _ | refine Ext.drew ?_ | refine Ext.drewN ?_ _ | refine Ext.setCell ?_ (by first | (simp; done) | (simp; omega) | omega) _ | refine Ext.trans ?_ (by assumption)))) (nilInts _) Hok.out) ?_
    rintro e w2 ⟨u, rfl, hx2, hu⟩
    have Hst0 : Hid (FcSt n w.heap.size 0 u w2) := Lib.hid (by
      obtain ⟨g, hg, ho⟩ := Own.of_owned hu
      exact FcSt.of_list ho (fun h0 => by have := (hg h0).2; omega) (by rw [outL_zero]; exact (othTo_nil _).symm))
    obtain ⟨Au, cu, rfl⟩ : ∃ A c, u = .slice A (outL n 0).length c := by obtain ⟨A, c, e, _⟩ := Hst0.out.ints.len; exact ⟨A, c, e⟩
    have hxw2 : Ext w w2 := (by repeat (first | exact Ext.refl _ | assumption | refine Ext.alloc ?_ _ | refine Ext.drew ?_ | refine Ext.drewN ?_ _ | refine Ext.setCell ?_ (by first | (simp; done) | (simp; omega) | omega) _ | refine Ext.trans ?_ (by assumption)))
    have Hb2 := Lib.hid (Hb1.out.ext hx2)
    clear hb0 hb1 hbg Hhb Hb1 hx2 hu
    have hb := Hb2.out; have hb0 := hb.at0; have hb1 := hb.at1; have hbg := hb.1; have Hhb := Lib.hid hb; clear hb
    go_wp2_with fail
    refine Calls.mono (spec_l21Contradict s k _ n (outL n 0) _ (H.out.up hxw2) Hst0.out.ints Hok.out Hbl.out) ?_
    rintro e w3 ⟨rfl, hx3⟩
    have Hcb : Hid (conB n (outL n 0) = !B (Sol n)) := Lib.hid (by rw [outL_zero]; exact conB_all n)
    rw [Hcb.out]
    have Hst1 := Lib.hid (Hst0.out.ext hx3)
    have hxw3 : Ext w w3 := (by repeat (first | exact Ext.refl _ | assumption | refine Ext.alloc ?_ _ | refine Ext.drew ?_ | refine Ext.drewN ?_ _ | refine Ext.setCell ?_ (by first | (simp; done) | (simp; omega) | omega) _ | refine Ext.trans ?_ (by assumption)))
    have Hb3 := Lib.hid (Hb2.out.ext hx3)
    by_cases hs : Sol n
    · have Hv := Lib.hid (fc_sol Hc.out hs)
      rw [B_true hs]
      clear hs
      go_wp2_with fail
      go_ret2
      rw [Hv.out.1, Hv.out.2]
      exact NewInts2.nil 4 (by repeat (first | exact Ext.refl _ | assumption | refine Ext.alloc ?_ _ | refine Ext.drew ?_ | refine Ext.drewN ?_ _ | refine Ext.setCell ?_ (by first | (simp; done) | (simp; omega) | omega) _ | refine Ext.trans ?_ (by assumption)))
    · have Hv := Lib.hid (fc_ok Hc.out hs)
      rw [B_false hs]
      clear hs hb0 hb1 hbg Hhb Hb2 Hst0 hx3
      obtain ⟨N, hN⟩ : ∃ N, N = allS n := ⟨_, rfl⟩
      have HN := Lib.hid hN
      clear hN
      go_wp2_with fail
      go_loopg [5, 6, 7] N (fun q u5 i u7 wr => ∃ t : Nat, t + q = N ∧ i = .int .i64 (kept n t).length ∧ (∃ A c, u5 = .slice A (outL n t).length c) ∧ Ext w wr ∧ Boxed wr w.heap.size [s, k] ∧ Hid (FcSt n w.heap.size t u5 wr))
      case atStart => exact ⟨0, by omega, rfl, ⟨_, _, rfl⟩, (by repeat (first | exact Ext.refl _ | assumption | refine Ext.alloc ?_ _ | refine Ext.drew ?_ | refine Ext.drewN ?_ _ | refine Ext.setCell ?_ (by first | (simp; done) | (simp; omega) | omega) _ | refine Ext.trans ?_ (by assumption))), Hb3.out, Hst1⟩
      case round =>
        obtain ⟨t, ht, rfl, ⟨A5, c5, rfl⟩, hxr, hnb, Hst⟩ := hrel
        have nb := hnb; have nb0 := nb.at0; have nb1 := nb.at1; have nbg := nb.1; have Hnb := Lib.hid nb; clear nb
        clear hnb
        have Hlen := Lib.hid (outL_len n t)
        have hsm := outL_small Hok.out t (by rw [← HN.out]; omega)
        by_cases hlt : t < N
        · have Hta := Lib.hid (show t < allS n by rw [← HN.out]; exact hlt)
          have hkl : (kept n t).length < (outL n t).length := by have h1 := Hlen.out; have h2 := Hta.out; omega
          have T1 : decide (((kept n t).length : Int) < ((outL n t).length : Int)) = true := decide_eq_true (by omega)
          have T2 : decide ((kept n t).length < (outL n t).length) = true := decide_eq_true hkl
          go_wp2_with fail
          refine Calls.mono (spec_l21Drop _ (outL n t) (kept n t).length _ Hst.out.ints hkl (by omega)) ?_
          rintro e w6 ⟨uv, g6, rfl, hx6, hg6, hu6⟩
          obtain ⟨A6, c6, rfl⟩ := hu6.len
          have Hu6 := Lib.hid hu6
          have hzr := hxr.size
          have Hg6 := Lib.hid (show 0 < ((outL n t).eraseIdx (kept n t).length).length → w.heap.size ≤ g6 from fun h0 => by have := hg6 h0; omega)
          have Hst6 := Lib.hid (Hst.out.ext hx6)
          have Hb6 := Lib.hid (Hnb.out.ext hx6)
          have hxw6 : Ext w w6 := (by repeat (first | exact Ext.refl _ | assumption | refine Ext.alloc ?_ _ | refine Ext.drew ?_ | refine Ext.drewN ?_ _ | refine Ext.setCell ?_ (by first | (simp; done) | (simp; omega) | omega) _ | refine Ext.trans ?_ (by assumption)))
          clear nb0 nb1 nbg Hnb hu6 hg6 hx6 Hst
          have nb := Hb6.out; have nb0 := nb.at0; have nb1 := nb.at1; have nbg := nb.1; have Hnb := Lib.hid nb; clear nb
          go_wp2_with fail
          refine Calls.mono (spec_l21Contradict s k _ n ((outL n t).eraseIdx (kept n t).length) _ (H.out.up hxw6) (Ints.of_own Hu6.out) Hok.out Hbl.out) ?_
          rintro e w7 ⟨rfl, hx7⟩
          have hxw7 : Ext w w7 := (by repeat (first | exact Ext.refl _ | assumption | refine Ext.alloc ?_ _ | refine Ext.drew ?_ | refine Ext.drewN ?_ _ | refine Ext.setCell ?_ (by first | (simp; done) | (simp; omega) | omega) _ | refine Ext.trans ?_ (by assumption)))
          have Hb7 := Lib.hid (Hnb.out.ext hx7)
          cases hcj : conB n ((outL n t).eraseIdx (kept n t).length)
          · have He := Lib.hid (outL_no Hta.out hcj)
            have Hst7 := Lib.hid (Hst6.out.ext hx7)
            clear hcj
            go_wp2_with fail
            go_roundg (N - (t + 1))
            case measure => omega
            case rel => exact ⟨t + 1, by omega, by rw [He.out.2]; go_num, ⟨_, _, by rw [He.out.1]⟩, (by repeat (first | exact Ext.refl _ | assumption | refine Ext.alloc ?_ _ | refine Ext.drew ?_ | refine Ext.drewN ?_ _ | refine Ext.setCell ?_ (by first | (simp; done) | (simp; omega) | omega) _ | refine Ext.trans ?_ (by assumption))), Hb7.out, Lib.hid (by unfold FcSt; rw [He.out.1]; exact Hst7.out)⟩
          · have He := Lib.hid (outL_yes Hta.out hcj)
            have Hst7 := Lib.hid (FcSt.of_list (n := n) (Hu6.out.ext hx7) Hg6.out He.out.1)
            clear hcj
            go_wp2_with fail
            go_roundg (N - (t + 1))
            case measure => omega
            case rel => exact ⟨t + 1, by omega, by rw [He.out.2], ⟨_, _, by rw [He.out.1]⟩, (by repeat (first | exact Ext.refl _ | assumption | refine Ext.alloc ?_ _ | refine Ext.drew ?_ | refine Ext.drewN ?_ _ | refine Ext.setCell ?_ (by first | (simp; done) | (simp; omega) | omega) _ | refine Ext.trans ?_ (by assumption))), Hb7.out, Hst7⟩
        · obtain rfl : t = N := by omega
          have T1 : decide (((kept n t).length : Int) < ((outL n t).length : Int)) = false := decide_eq_false (by have h1 := Hlen.out; have h2 := HN.out; omega)
          have T2 : decide ((kept n t).length < (outL n t).length) = false := decide_eq_false (by have h1 := Hlen.out; have h2 := HN.out; omega)
          have HN2 : Hid (t = allS n) := Lib.hid HN.out
          go_wp2_with fail
          go_ret2
          obtain ⟨g, h1, h2⟩ := Hst.out
          rw [HN2.out] at h1 h2
          rw [Hv.out.1, Hv.out.2, HN2.out]
          exact ⟨_, g, rfl, (by repeat (first | exact Ext.refl _ | assumption | refine Ext.alloc ?_ _ | refine Ext.drew ?_ | refine Ext.drewN ?_ _ | refine Ext.setCell ?_ (by first | (simp; done) | (simp; omega) | omega) _ | refine Ext.trans ?_ (by assumption))), h2, h1⟩
  · have Hc := Lib.hid (fc_code hc)
    have hd : (blE n [] != 0) = true := by simp [hc]
    clear hc
    go_wp2_with fail
    go_ret2
    rw [Hc.out.1, Hc.out.2]
    exact NewInts2.nil _ (by repeat (first | exact Ext.refl _ | assumption | refine Ext.alloc ?_ _ | refine Ext.drew ?_ | refine Ext.drewN ?_ _ | refine Ext.setCell ?_ (by first | (simp; done) | (simp; omega) | omega) _ | refine Ext.trans ?_ (by assumption)))
end Go.Proofs.YtfajmlkiidnhlaaGreat

/- Contracts: SmallestRepair. -/
namespace Go.Proofs.YtfajmlkiidnhlaaGreat
set_option linter.unusedVariables false
set_option linter.unusedSimpArgs false
open Go.RowKit
attribute [local go_sem] cell_onto

theorem ints2r (w : World) (a b : Int) (T : TypeId) : Ints (w.alloc (.cells #[.int .i64 a, .int .i64 b] T)) 0 (w.alloc (.cells #[.int .i64 a, .int .i64 b] T)).heap.size (.slice (some ⟨w.heap.size, 0, none⟩) 2 2) [a, b] :=
  have h := Boxed.new w [.int .i64 a, .int .i64 b] T
  ⟨by simp [maxLen], _, 2, rfl, Nat.le_refl _, fun _ => ⟨w.heap.size, 0, rfl, Nat.zero_le _, h.1, fun i hi => by
    rw [Nat.zero_add]
    have hi' : i < 2 := by simpa using hi
    match i, hi' with
    | 0, _ => exact (h.2 0 _ rfl).1
    | 1, _ => exact (h.2 1 _ rfl).1⟩⟩
theorem own1 {w w' : World} {x : Int} {T : TypeId} (hx : Ext (w.alloc (.cells #[.int .i64 x] T)) w') : Own w' w.heap.size 1 (.slice (some ⟨w.heap.size, 0, none⟩) 1 1) 1 (intCell [x]) := by
  have h := (Boxed.new w [.int .i64 x] T).ext hx
  exact ⟨by simp [maxLen], _, 1, rfl, Nat.le_refl _, fun _ => ⟨h.1, 0, rfl, fun i hi => by
    obtain rfl : i = 0 := by omega
    exact h.2 0 _ rfl⟩⟩
theorem own2 {w w' : World} {x y : Int} {T : TypeId} (hx : Ext (w.alloc (.cells #[.int .i64 x, .int .i64 y] T)) w') : Own w' w.heap.size 1 (.slice (some ⟨w.heap.size, 0, none⟩) 2 2) 2 (intCell [x, y]) := by
  have h := (Boxed.new w [.int .i64 x, .int .i64 y] T).ext hx
  exact ⟨by simp [maxLen], _, 2, rfl, by omega, fun _ => ⟨h.1, 0, rfl, fun i hi => by
    have hi' : i < 2 := by omega
    match i, hi' with
    | 0, _ => exact h.2 0 _ rfl
    | 1, _ => exact h.2 1 _ rfl⟩⟩
theorem rep1_iff (n : Net) (s : Nat) : repB n [(s : Int)] = B (Rep1 n s) := B_eq Iff.rfl
theorem rep2_iff (n : Net) (s t : Nat) : repB n [(s : Int), (t : Int)] = B (Rep2 n s t) := B_eq Iff.rfl
def No1 (n : Net) (j : Nat) : Prop := ∀ k, k < j → ¬ Rep1 n k
theorem No1.step {n : Net} {j : Nat} (h : No1 n j) (h2 : ¬ Rep1 n j) : No1 n (j + 1) := fun k hk => by
  by_cases e : k = j
  · subst e; exact h2
  · exact h k (by omega)
def NoP (n : Net) (j : Nat) : Prop := ∀ k, k < j → ¬ RepP n k
theorem NoP.step {n : Net} {j : Nat} (h : NoP n j) (h2 : ¬ RepP n j) : NoP n (j + 1) := fun k hk => by
  by_cases e : k = j
  · subst e; exact h2
  · exact h k (by omega)
def No2 (n : Net) (s t : Nat) : Prop := ∀ k, s < k → k < t → ¬ Rep2 n s k
theorem No2.step {n : Net} {s t : Nat} (h : No2 n s t) (h2 : ¬ Rep2 n s t) : No2 n s (t + 1) := fun k hk hk2 => by
  by_cases e : k = t
  · subst e; exact h2
  · exact h k hk (by omega)
theorem No2.all {n : Net} {s : Nat} (h : No2 n s (allS n)) : ¬ RepP n s := fun ⟨t, h1, h2, h3⟩ => h t h1 h2 h3

set_option maxHeartbeats 8000000 in
theorem impl_SmallestRepair (s k : Value) (n : Net) (w : World) (h : NetIn w s k n) : Calls Tryz.prog 11 #[.agg #[s, k]] w (NewInts2 (smL n) (smE n) w) := by
  have H := Lib.hid h
  clear h
  go_enter Tryz.func11, Tryz.ntmps11
  go_wp2_with fail
  refine Calls.mono (impl_checkBlame s k _ n [] _ (H.out.up (by repeat (first | exact Ext.refl _ | assumption | refine Ext.alloc ?_ _ | refine Ext.drew ?_ | refine Ext.drewN ?_ _ | refine Ext.setCell ?_ (by first | (simp; done) | (simp; omega) | omega) _ | refine Ext.trans ?_ (by assumption)))) (nilInts _)) ?_
  rintro e w1 ⟨rfl, hx1⟩
  have hb := (Boxed.new w [s, k] 27).ext hx1; have hb0 := hb.at0; have hb1 := hb.at1; have hbg := hb.1; have Hhb := Lib.hid hb; clear hb
  have hx : Ext w w1 := (by repeat (first | exact Ext.refl _ | assumption | refine Ext.alloc ?_ _ | refine Ext.drew ?_ | refine Ext.drewN ?_ _ | refine Ext.setCell ?_ (by first | (simp; done) | (simp; omega) | omega) _ | refine Ext.trans ?_ (by assumption)))
  have Hb1 : Hid (Boxed w1 w.heap.size [s, k]) := Lib.hid Hhb.out
  clear hx1
  by_cases hc : blE n [] = 0
  · have Hc := Lib.hid hc
    have Hok := Lib.hid (blE_zero hc).1
    have h8 := (blE_zero hc).1.1
    have h20 := (blE_zero hc).1.2.1
    have hd : (blE n [] != 0) = false := by rw [hc]; rfl
    obtain ⟨N, hN⟩ : ∃ N, N = allS n := ⟨_, rfl⟩
    have HN := Lib.hid hN
    have hN28 : N ≤ 28 := by rw [hN]; unfold allS; omega
    clear hc hN
    go_wp2_with fail
    refine Calls.mono (impl_isSolvable s k n _ (H.out.up (by repeat (first | exact Ext.refl _ | assumption | refine Ext.alloc ?_ _ | refine Ext.drew ?_ | refine Ext.drewN ?_ _ | refine Ext.setCell ?_ (by first | (simp; done) | (simp; omega) | omega) _ | refine Ext.trans ?_ (by assumption)))) (NetFit.of Hok.out)) ?_
    rintro e w2 ⟨rfl, hx2⟩
    have hxw2 : Ext w w2 := (by repeat (first | exact Ext.refl _ | assumption | refine Ext.alloc ?_ _ | refine Ext.drew ?_ | refine Ext.drewN ?_ _ | refine Ext.setCell ?_ (by first | (simp; done) | (simp; omega) | omega) _ | refine Ext.trans ?_ (by assumption)))
    have Hb2 := Lib.hid (Hb1.out.ext hx2)
    clear hb0 hb1 hbg Hhb Hb1 hx2
    have hb := Hb2.out; have hb0 := hb.at0; have hb1 := hb.at1; have hbg := hb.1; have Hhb := Lib.hid hb; clear hb
    by_cases hs : Sol n
    · have Hv := Lib.hid (sm_sol Hc.out hs)
      rw [B_true hs]
      clear hs
      go_wp2_with fail
      go_ret2
      rw [Hv.out.1, Hv.out.2]
      exact NewInts2.nil 0 (by repeat (first | exact Ext.refl _ | assumption | refine Ext.alloc ?_ _ | refine Ext.drew ?_ | refine Ext.drewN ?_ _ | refine Ext.setCell ?_ (by first | (simp; done) | (simp; omega) | omega) _ | refine Ext.trans ?_ (by assumption)))
    · have Hs := Lib.hid hs
      rw [B_false hs]
      clear hs
      go_wp2_with fail
      refine Calls.mono (impl_statementsOf s k n _ (H.out.up (by repeat (first | exact Ext.refl _ | assumption | refine Ext.alloc ?_ _ | refine Ext.drew ?_ | refine Ext.drewN ?_ _ | refine Ext.setCell ?_ (by first | (simp; done) | (simp; omega) | omega) _ | refine Ext.trans ?_ (by assumption)))) ⟨by omega, by omega⟩) ?_
      rintro e w3 ⟨rfl, hx3⟩
      have e1 : (n.sets.length : Int) + n.links.length = (N : Int) := by rw [HN.out]; unfold allS; omega
      rw [e1]
      have Hb3 := Lib.hid (Hb2.out.ext hx3)
      have hxw3 : Ext w w3 := (by repeat (first | exact Ext.refl _ | assumption | refine Ext.alloc ?_ _ | refine Ext.drew ?_ | refine Ext.drewN ?_ _ | refine Ext.setCell ?_ (by first | (simp; done) | (simp; omega) | omega) _ | refine Ext.trans ?_ (by assumption)))
      clear hb0 hb1 hbg Hhb Hb2 hx3
      have hb := Hb3.out; have hb0 := hb.at0; have hb1 := hb.at1; have hbg := hb.1; have Hhb := Lib.hid hb; clear hb
      go_wp2_with fail
      go_loopg [6, 19] N (fun q u6 i wr => ∃ j : Nat, j + q = N ∧ i = .int .i64 j ∧ Ext w wr ∧ Boxed wr w.heap.size [s, k] ∧ Hid (No1 n j))
      case atStart => exact ⟨0, by omega, rfl, (by repeat (first | exact Ext.refl _ | assumption | refine Ext.alloc ?_ _ | refine Ext.drew ?_ | refine Ext.drewN ?_ _ | refine Ext.setCell ?_ (by first | (simp; done) | (simp; omega) | omega) _ | refine Ext.trans ?_ (by assumption))), Hb3.out, Lib.hid (fun i hi => absurd hi (by omega))⟩
      clear hb0 hb1 hbg Hhb
      case round =>
        obtain ⟨j, hj, rfl, hxr, hnb, Hno⟩ := hrel
        have nb := hnb; have nb0 := nb.at0; have nb1 := nb.at1; have nbg := nb.1; have Hnb := Lib.hid nb; clear nb
        clear hnb
        by_cases hlt : j < N
        · have T1 : decide ((j : Int) < (N : Int)) = true := decide_eq_true (by omega)
          have T2 : decide (j < N) = true := decide_eq_true hlt
          go_wp2_with fail
          refine Calls.mono (impl_repairs s k _ n [(j : Int)] _ (H.out.up (by repeat (first | exact Ext.refl _ | assumption | refine Ext.alloc ?_ _ | refine Ext.drew ?_ | refine Ext.drewN ?_ _ | refine Ext.setCell ?_ (by first | (simp; done) | (simp; omega) | omega) _ | refine Ext.trans ?_ (by assumption)))) (boxInts0 wr j 2) Hok.out) ?_
          rintro e w4 ⟨rfl, hx4⟩
          have hxw4 : Ext w w4 := (by repeat (first | exact Ext.refl _ | assumption | refine Ext.alloc ?_ _ | refine Ext.drew ?_ | refine Ext.drewN ?_ _ | refine Ext.setCell ?_ (by first | (simp; done) | (simp; omega) | omega) _ | refine Ext.trans ?_ (by assumption)))
          have Hb4 := Lib.hid (Hnb.out.ext (((Ext.refl wr).alloc _).trans hx4))
          clear nb0 nb1 nbg Hnb hx4
          have Hre := Lib.hid (rep1_iff n j)
          rw [Hre.out]
          by_cases hr : Rep1 n j
          · have Hv := Lib.hid (sm_one Hc.out Hs.out (by rw [← HN.out]; exact hlt) hr Hno.out)
            have hz4 := hxw4.size
            rw [B_true hr]
            clear hr
            go_wp2_with fail
            go_ret2
            rw [Hv.out.1, Hv.out.2]
            exact ⟨_, w4.heap.size, rfl, (by repeat (first | exact Ext.refl _ | assumption | refine Ext.alloc ?_ _ | refine Ext.drew ?_ | refine Ext.drewN ?_ _ | refine Ext.setCell ?_ (by first | (simp; done) | (simp; omega) | omega) _ | refine Ext.trans ?_ (by assumption))), fun _ => hz4, own1 (by repeat (first | exact Ext.refl _ | assumption | refine Ext.alloc ?_ _ | refine Ext.drew ?_ | refine Ext.drewN ?_ _ | refine Ext.setCell ?_ (by first | (simp; done) | (simp; omega) | omega) _ | refine Ext.trans ?_ (by assumption)))⟩
          · have Hr := Lib.hid hr
            rw [B_false hr]
            clear hr
            go_wp2_with fail
            go_roundg (N - (j + 1))
            case measure => omega
            case rel => exact ⟨j + 1, by omega, by go_num, (by repeat (first | exact Ext.refl _ | assumption | refine Ext.alloc ?_ _ | refine Ext.drew ?_ | refine Ext.drewN ?_ _ | refine Ext.setCell ?_ (by first | (simp; done) | (simp; omega) | omega) _ | refine Ext.trans ?_ (by assumption))), Hb4.out, Lib.hid (Hno.out.step Hr.out)⟩
        · obtain rfl : j = N := by omega
          have T1 : decide ((j : Int) < (j : Int)) = false := decide_eq_false (by omega)
          have H1 := Lib.hid (show ∀ k, k < allS n → ¬ Rep1 n k from by rw [← HN.out]; exact Hno.out)
          have Hb4 : Hid (Boxed wr w.heap.size [s, k]) := Lib.hid Hnb.out
          clear nb0 nb1 nbg Hnb Hno
          go_wp2_with fail
          go_loopg [7, 8, 30] j (fun q u7 u8 i wr => ∃ t : Nat, t + q = j ∧ i = .int .i64 t ∧ Ext w wr ∧ Boxed wr w.heap.size [s, k] ∧ Hid (NoP n t))
          case atStart => exact ⟨0, by omega, rfl, (by repeat (first | exact Ext.refl _ | assumption | refine Ext.alloc ?_ _ | refine Ext.drew ?_ | refine Ext.drewN ?_ _ | refine Ext.setCell ?_ (by first | (simp; done) | (simp; omega) | omega) _ | refine Ext.trans ?_ (by assumption))), Hb4.out, Lib.hid (fun i hi => absurd hi (by omega))⟩
          clear Hb4 hxr
          case round =>
            obtain ⟨t, ht, rfl, hxr, hnb, Hno⟩ := hrel
            by_cases hlt : t < j
            · have T3 : decide ((t : Int) < (j : Int)) = true := decide_eq_true (by omega)
              have T4 : decide (t < j) = true := decide_eq_true hlt
              have Hnb := Lib.hid hnb
              clear hnb
              go_wp2_with fail
              go_loopg [8] (j - (t + 1)) (fun q i wr => ∃ m : Nat, m + q = j ∧ t + 1 ≤ m ∧ i = .int .i64 m ∧ Ext w wr ∧ Boxed wr w.heap.size [s, k] ∧ Hid (No2 n t m))
              case atStart => exact ⟨t + 1, by omega, by omega, by go_num, (by repeat (first | exact Ext.refl _ | assumption | refine Ext.alloc ?_ _ | refine Ext.drew ?_ | refine Ext.drewN ?_ _ | refine Ext.setCell ?_ (by first | (simp; done) | (simp; omega) | omega) _ | refine Ext.trans ?_ (by assumption))), Hnb.out, Lib.hid (fun i hi hi2 => absurd hi2 (by omega))⟩
              clear Hnb hxr
              case round =>
                obtain ⟨m, hm, htm, rfl, hxr, hnb, Hn2⟩ := hrel
                have nb := hnb; have nb0 := nb.at0; have nb1 := nb.at1; have nbg := nb.1; have Hnb := Lib.hid nb; clear nb
                clear hnb
                by_cases hlm : m < j
                · have T5 : decide ((m : Int) < (j : Int)) = true := decide_eq_true (by omega)
                  have T6 : decide (m < j) = true := decide_eq_true hlm
                  go_wp2_with fail
                  refine Calls.mono (impl_repairs s k _ n [(t : Int), (m : Int)] _ (H.out.up (by repeat (first | exact Ext.refl _ | assumption | refine Ext.alloc ?_ _ | refine Ext.drew ?_ | refine Ext.drewN ?_ _ | refine Ext.setCell ?_ (by first | (simp; done) | (simp; omega) | omega) _ | refine Ext.trans ?_ (by assumption)))) (ints2r wr t m 2) Hok.out) ?_
                  rintro e w4 ⟨rfl, hx4⟩
                  have hxw4 : Ext w w4 := (by repeat (first | exact Ext.refl _ | assumption | refine Ext.alloc ?_ _ | refine Ext.drew ?_ | refine Ext.drewN ?_ _ | refine Ext.setCell ?_ (by first | (simp; done) | (simp; omega) | omega) _ | refine Ext.trans ?_ (by assumption)))
                  have Hb4 := Lib.hid (Hnb.out.ext (((Ext.refl wr).alloc _).trans hx4))
                  clear nb0 nb1 nbg Hnb hx4
                  have Hre := Lib.hid (rep2_iff n t m)
                  rw [Hre.out]
                  by_cases hr : Rep2 n t m
                  · have Hv := Lib.hid (sm_two Hc.out Hs.out H1.out (by omega) (by rw [← HN.out]; exact hlm) hr Hno.out Hn2.out)
                    have hz4 := hxw4.size
                    rw [B_true hr]
                    clear hr
                    go_wp2_with fail
                    go_ret2
                    rw [Hv.out.1, Hv.out.2]
                    exact ⟨_, w4.heap.size, rfl, (by repeat (first | exact Ext.refl _ | assumption | refine Ext.alloc ?_ _ | refine Ext.drew ?_ | refine Ext.drewN ?_ _ | refine Ext.setCell ?_ (by first | (simp; done) | (simp; omega) | omega) _ | refine Ext.trans ?_ (by assumption))), fun _ => hz4, own2 (by repeat (first | exact Ext.refl _ | assumption | refine Ext.alloc ?_ _ | refine Ext.drew ?_ | refine Ext.drewN ?_ _ | refine Ext.setCell ?_ (by first | (simp; done) | (simp; omega) | omega) _ | refine Ext.trans ?_ (by assumption)))⟩
                  · have Hr := Lib.hid hr
                    rw [B_false hr]
                    clear hr
                    go_wp2_with fail
                    go_roundg (j - (m + 1))
                    case measure => omega
                    case rel => exact ⟨m + 1, by omega, by omega, by go_num, (by repeat (first | exact Ext.refl _ | assumption | refine Ext.alloc ?_ _ | refine Ext.drew ?_ | refine Ext.drewN ?_ _ | refine Ext.setCell ?_ (by first | (simp; done) | (simp; omega) | omega) _ | refine Ext.trans ?_ (by assumption))), Hb4.out, Lib.hid (Hn2.out.step Hr.out)⟩
                · obtain rfl : m = j := by omega
                  have T5 : decide ((m : Int) < (m : Int)) = false := decide_eq_false (by omega)
                  have Hp := Lib.hid (show ¬ RepP n t from No2.all (by rw [← HN.out]; exact Hn2.out))
                  go_wp2_with fail
                  go_roundg (m - (t + 1))
                  case measure => omega
                  case rel => exact ⟨t + 1, by omega, by go_num, (by repeat (first | exact Ext.refl _ | assumption | refine Ext.alloc ?_ _ | refine Ext.drew ?_ | refine Ext.drewN ?_ _ | refine Ext.setCell ?_ (by first | (simp; done) | (simp; omega) | omega) _ | refine Ext.trans ?_ (by assumption))), Hnb.out, Lib.hid (Hno.out.step Hp.out)⟩
            · obtain rfl : t = j := by omega
              have T3 : decide ((t : Int) < (t : Int)) = false := decide_eq_false (by omega)
              have Hv := Lib.hid (sm_none Hc.out Hs.out H1.out (by rw [← HN.out]; exact Hno.out))
              go_wp2_with fail
              go_ret2
              rw [Hv.out.1, Hv.out.2]
              exact NewInts2.nil 4 (by repeat (first | exact Ext.refl _ | assumption | refine Ext.alloc ?_ _ | refine Ext.drew ?_ | refine Ext.drewN ?_ _ | refine Ext.setCell ?_ (by first | (simp; done) | (simp; omega) | omega) _ | refine Ext.trans ?_ (by assumption)))
  · have Hc := Lib.hid (sm_code hc)
    have hd : (blE n [] != 0) = true := by simp [hc]
    clear hc
    go_wp2_with fail
    go_ret2
    rw [Hc.out.1, Hc.out.2]
    exact NewInts2.nil _ (by repeat (first | exact Ext.refl _ | assumption | refine Ext.alloc ?_ _ | refine Ext.drew ?_ | refine Ext.drewN ?_ _ | refine Ext.setCell ?_ (by first | (simp; done) | (simp; omega) | omega) _ | refine Ext.trans ?_ (by assumption)))
end Go.Proofs.YtfajmlkiidnhlaaGreat

/- Contracts: the reference's search for the smallest repair. -/
namespace Go.Proofs.YtfajmlkiidnhlaaGreat
set_option linter.unusedVariables false
set_option linter.unusedSimpArgs false
open Go.RowKit
attribute [local go_sem] cell_onto

/-- what a search gives: whether p, and where p the list r, in memory from lo on -/
def SePost (p : Prop) (r : List Int) (lo : Nat) (w : World) (e : Ending) (w' : World) : Prop :=
  ∃ v, e = .returned (.tuple #[v, .bool (B p)]) ∧ Ext w w' ∧ (p → ∃ g, Own w' g 1 v r.length (intCell r) ∧ (0 < r.length → lo ≤ g))
def SeOk (s k : Value) (n : Net) (m : Nat) (l : List Int) (p : Prop) (r : List Int) : Prop :=
  ∀ (v : Value) (g lo : Nat) (w : World), NetIn w s k n → Own w g 1 v l.length (intCell l) → (0 < l.length → lo ≤ g) → lo ≤ w.heap.size → Calls Tryz.prog 53 #[.agg #[s, k], v, .int .i64 m] w (SePost p r lo w)
set_option maxHeartbeats 1000000 in
theorem search_0 (s k : Value) (n : Net) (l : List Int) (hok : NetOk n) (hbl : blN n ≤ 256) : SeOk s k n 0 l (repB n l = true) l := by
  intro v g lo w h ho hg hlo
  obtain ⟨A, c, rfl⟩ := ho.len
  have H := Lib.hid h
  have Ho := Lib.hid ho
  have Hg := Lib.hid hg
  have Hl := Lib.hid (Ints.of_own ho)
  have Hok := Lib.hid hok
  clear h ho hg hok
  go_enter Tryz.func53, Tryz.ntmps53
  go_wp2_with fail
  refine Calls.mono (spec_l21Repairs s k _ n l _ (H.out.up (by repeat (first | exact Ext.refl _ | assumption | refine Ext.alloc ?_ _ | refine Ext.drew ?_ | refine Ext.drewN ?_ _ | refine Ext.setCell ?_ (by first | (simp; done) | (simp; omega) | omega) _ | refine Ext.trans ?_ (by assumption)))) (Hl.out.up (by repeat (first | exact Ext.refl _ | assumption | refine Ext.alloc ?_ _ | refine Ext.drew ?_ | refine Ext.drewN ?_ _ | refine Ext.setCell ?_ (by first | (simp; done) | (simp; omega) | omega) _ | refine Ext.trans ?_ (by assumption)))) Hok.out hbl) ?_
  rintro e w1 ⟨rfl, hx1⟩
  have hx : Ext w w1 := (by repeat (first | exact Ext.refl _ | assumption | refine Ext.alloc ?_ _ | refine Ext.drew ?_ | refine Ext.drewN ?_ _ | refine Ext.setCell ?_ (by first | (simp; done) | (simp; omega) | omega) _ | refine Ext.trans ?_ (by assumption)))
  have Hre : Hid (repB n l = B (repB n l = true)) := Lib.hid (B_eq Iff.rfl)
  rw [Hre.out]
  go_wp2_with fail
  go_ret2
  exact ⟨_, rfl, (by repeat (first | exact Ext.refl _ | assumption | refine Ext.alloc ?_ _ | refine Ext.drew ?_ | refine Ext.drewN ?_ _ | refine Ext.setCell ?_ (by first | (simp; done) | (simp; omega) | omega) _ | refine Ext.trans ?_ (by assumption))), fun _ => ⟨g, Ho.out.ext hx, Hg.out⟩⟩
theorem firstP_from {p : Nat → Prop} {N f x : Nat} (h1 : f ≤ x) (h2 : x < N) (h3 : ∀ k, f ≤ k → k < x → ¬ p k) (h4 : p x) : firstP p N f = x := firstP_eq N f x h1 (by omega) h3 h4
set_option maxRecDepth 100000 in
set_option maxHeartbeats 8000000 in
theorem search_more (s k : Value) (n : Net) (m : Nat) (l : List Int) (f : Nat) (P : Nat → Prop) (R : Nat → List Int) (hok : NetOk n) (hm : m ≤ 2) (hf : (l = [] ∧ f = 0) ∨ ∃ t : Nat, l = [(t : Int)] ∧ f = t + 1) (hfN : f ≤ allS n)
    (ih : ∀ x, f ≤ x → x < allS n → SeOk s k n m (l ++ [(x : Int)]) (P x) (R x)) : SeOk s k n (m + 1) l (∃ x, f ≤ x ∧ x < allS n ∧ P x) (R (firstP P (allS n) f)) := by
  intro v g lo w h ho hg hlo
  have hll : l.length ≤ 1 := by
    rcases hf with ⟨rfl, _⟩ | ⟨t, rfl, _⟩ <;> simp
  have h8 := hok.1
  have h20 := hok.2.1
  obtain ⟨N, hN⟩ : ∃ N, N = allS n := ⟨_, rfl⟩
  have HN := Lib.hid hN
  have hN28 : N ≤ 28 := by rw [hN]; unfold allS; omega
  rw [← hN] at ih hfN
  have hno : ((m : Int) + 1 == 0) = false := by simp; omega
  have hm1 : IntKind.i64.wrap ((m : Int) + 1 - 1) = (m : Int) := by rw [show (m : Int) + 1 - 1 = m by omega]; exact IntWalk.i64_in _ (by omega)
  have hm2 : IntKind.i64.wrap (m : Int) = (m : Int) := IntWalk.i64_in _ (by omega)
  have Hih := Lib.hid ih
  have H := Lib.hid h
  have Hlo : Hid (lo ≤ w.heap.size) := Lib.hid hlo
  have Hl := Lib.hid (Ints.of_own ho)
  obtain ⟨A, c, rfl⟩ := ho.len
  have hcell : ∀ t : Nat, l = [(t : Int)] → ∃ b off, A = some ⟨b, off, none⟩ ∧ b < w.heap.size ∧ w.cell? ⟨b, off, none⟩ = some (.int .i64 t) := fun t e => by
    obtain ⟨b, off, e1, _, hb, h1⟩ := (Hl.out).at_ (i := 0) (by rw [e]; simp)
    rw [e] at h1
    exact ⟨b, off, e1, hb, by simpa [inAt] using h1⟩
  clear h ho hg hok hlo ih hN
  have hgo : ∀ (a1 : Act) (u9 : Value), True := fun _ _ => trivial
  rcases hf with ⟨rfl, rfl⟩ | ⟨t, rfl, rfl⟩
  · have Hl : Hid (Ints w 0 w.heap.size (.slice A 0 c) []) := Lib.hid Hl.out
    clear hcell hgo
    go_enter Tryz.func53, Tryz.ntmps53
    have bb := Boxed.new w [s, k] 27; have bb0 := bb.at0; have bb1 := bb.at1; have bbg := bb.1; have Hbb := Lib.hid bb; clear bb
    go_wp2_with fail
    go_loopg [9] (N - 0) (fun q i wr => ∃ x : Nat, x + q = N ∧ 0 ≤ x ∧ i = .int .i64 x ∧ Ext w wr ∧ Boxed wr w.heap.size [s, k] ∧ Hid (∀ y, 0 ≤ y → y < x → ¬ P y))
    case atStart => exact ⟨0, by omega, by omega, by go_num, (by repeat (first | exact Ext.refl _ | assumption | refine Ext.alloc ?_ _ | refine Ext.drew ?_ | refine Ext.drewN ?_ _ | refine Ext.setCell ?_ (by first | (simp; done) | (simp; omega) | omega) _ | refine Ext.trans ?_ (by assumption))), Hbb.out.ext (by repeat (first | exact Ext.refl _ | assumption | refine Ext.alloc ?_ _ | refine Ext.drew ?_ | refine Ext.drewN ?_ _ | refine Ext.setCell ?_ (by first | (simp; done) | (simp; omega) | omega) _ | refine Ext.trans ?_ (by assumption))), Lib.hid (fun y h1 h2 => absurd h1 (by omega))⟩
    clear bb0 bb1 bbg Hbb
    case round =>
      obtain ⟨x, hxq, hfx, rfl, hxr, hnb, Hno⟩ := hrel
      have nb := hnb; have nb0 := nb.at0; have nb1 := nb.at1; have nbg := nb.1; have Hnb := Lib.hid nb; clear nb
      clear hnb
      go_wp2_with fail
      refine Calls.mono (spec_l21Count s k n wr (H.out.up hxr) ⟨by omega, by omega⟩) ?_
      rintro e w2 ⟨rfl, hx2⟩
      have e1 : (n.sets.length : Int) + n.links.length = (N : Int) := by rw [HN.out]; unfold allS; omega
      rw [e1]
      have hxw2 : Ext w w2 := hxr.trans hx2
      have Hn2 := Lib.hid (Hnb.out.ext hx2)
      have hz2 := hxw2.size
      clear nb0 nb1 nbg Hnb hx2 hxr
      have nb := Hn2.out; have nb0 := nb.at0; have nb1 := nb.at1; have nbg := nb.1; have Hnb := Lib.hid nb; clear nb
      by_cases hlt : x < N
      · have T1 : decide ((x : Int) < (N : Int)) = true := decide_eq_true (by omega)
        have T2 : decide (x < N) = true := decide_eq_true hlt
        go_wp2_with fail
        go_region_law (first
          | (refine step_append_row rfl (.tmp 38) (.tmp 40) 31 rfl w2.heap.size 2 1 8 Tryz.underlying31 (by kernel_rfl) (by omega) _ ([] : List Int).length 1 _ rfl (.inl (ownsRow_mono (row_ext hu (by repeat (first | exact Ext.refl _ | assumption | refine Ext.alloc ?_ _ | refine Ext.drew ?_ | refine Ext.drewN ?_ _ | refine Ext.setCell ?_ (by first | (simp; done) | (simp; omega) | omega) _ | refine Ext.trans ?_ (by assumption)))) (by first | (simp; done) | (simp; omega) | omega))) (.inl (ownsRow_mono (row_ext hu (by repeat (first | exact Ext.refl _ | assumption | refine Ext.alloc ?_ _ | refine Ext.drew ?_ | refine Ext.drewN ?_ _ | refine Ext.setCell ?_ (by first | (simp; done) | (simp; omega) | omega) _ | refine Ext.trans ?_ (by assumption)))) (by first | (simp; done) | (simp; omega) | omega))) 0 _ _ (intCell [(x : Int)]) rfl (by first | exact (Boxed.new w3 [.int .i64 (x : Int)] 2).row rfl (int_cells _) | exact (((Boxed.new w2 [.int .i64 (x : Int)] 2).ext ((Ext.refl _).drew)).ext hx3).row rfl (int_cells _)) (fun _ _ => rfl) (by simp [maxLen]) (by simp) (by have := hx3.size; simp at this ⊢; omega) ?_; intro v4 w4 hown4 hput4; obtain ⟨A4, c4, rfl⟩ := ownsRow_len hown4; have Hx4 : Hid (Ext w2 w4) := Lib.hid (hput4.ext (show Ext w2 _ from (by repeat (first | exact Ext.refl _ | assumption | refine Ext.alloc ?_ _ | refine Ext.drew ?_ | refine Ext.drewN ?_ _ | refine Ext.setCell ?_ (by first | (simp; done) | (simp; omega) | omega) _ | refine Ext.trans ?_ (by assumption)))) (Nat.le_refl _)); obtain ⟨g4, hg4, ho4⟩ := Own.of_owned (f := intCell (([] : List Int) ++ [(x : Int)])) (show w4.ownsRow w2.heap.size 2 1 _ (([] : List Int) ++ [(x : Int)]).length (cellsOf ((([] : List Int) ++ [(x : Int)]).length * 1) (intCell (([] : List Int) ++ [(x : Int)]))) from by rw [← intCells_push, List.length_append]; exact hown4); have Hg4 := Lib.hid hg4; have Ho4 := Lib.hid ho4; have eb := Hn2.out.ext Hx4.out; have eb0 := eb.at0; have eb1 := eb.at1; have ebg := eb.1; have Heb := Lib.hid eb; clear eb; clear hown4 hput4 hg4 ho4)
          | (go_simp; go_at_call 106; refine Calls.mono (spec_l01Own _ ([] : List Int) _ (Hl.out.up (hxw2.trans (by repeat (first | exact Ext.refl _ | assumption | refine Ext.alloc ?_ _ | refine Ext.drew ?_ | refine Ext.drewN ?_ _ | refine Ext.setCell ?_ (by first | (simp; done) | (simp; omega) | omega) _ | refine Ext.trans ?_ (by assumption))))) (by simp)) ?_; rintro e w3 ⟨uv, rfl, hx3, hu⟩; obtain ⟨Au, cu, rfl⟩ := ownsRow_len hu; have cb := Hn2.out.ext (show Ext w2 w3 from (by repeat (first | exact Ext.refl _ | assumption | refine Ext.alloc ?_ _ | refine Ext.drew ?_ | refine Ext.drewN ?_ _ | refine Ext.setCell ?_ (by first | (simp; done) | (simp; omega) | omega) _ | refine Ext.trans ?_ (by assumption)))); have cb0 := cb.at0; have cb1 := cb.at1; have cbg := cb.1; have Hcb := Lib.hid cb; clear cb)
          | (go_simp; go_at_call 53; refine Calls.mono (Hih.out x hfx hlt _ g4 lo _ (H.out.up (hxw2.trans Hx4.out)) Ho4.out (fun h0 => by have := (Hg4.out h0).2; have := Hlo.out; omega) (by have := Hlo.out; have := Hx4.out.size; omega)) ?_; rintro e w5 ⟨v5, rfl, hx5, hv5⟩))
        all_goals
          have Hx5 : Hid (Ext w w5) := Lib.hid ((hxw2.trans Hx4.out).trans hx5)
          have Hv5 := Lib.hid hv5
          have Hb5 := Lib.hid ((Hn2.out.ext Hx4.out).ext hx5)
          clear hv5
          by_cases hp : P x
          · have Hp := Lib.hid hp
            have Hfi := Lib.hid (firstP_from (N := N) hfx hlt Hno.out hp)
            obtain ⟨g5, ho5, hg5⟩ := Hv5.out hp
            obtain ⟨A5, c5, rfl⟩ := ho5.len
            have Ho5 := Lib.hid ho5
            have Hg5 := Lib.hid hg5
            rw [B_true hp]
            clear hp ho5 hg5
            go_wp2_with fail
            go_ret2
            unfold SePost
            rw [← HN.out, Hfi.out, B_true (show ∃ x, 0 ≤ x ∧ x < N ∧ P x from ⟨x, hfx, hlt, Hp.out⟩)]
            exact ⟨_, rfl, Hx5.out, fun _ => ⟨g5, Ho5.out, Hg5.out⟩⟩
          · have Hp := Lib.hid hp
            have hx5w := Hx5.out
            rw [B_false hp]
            clear hp
            go_wp2_with fail
            go_roundg (N - (x + 1))
            case measure => omega
            case rel => exact ⟨x + 1, by omega, by omega, by go_num, hx5w, Hb5.out, Lib.hid (fun y h1 h2 => by
              by_cases e : y = x
              · subst e; exact Hp.out
              · exact Hno.out y h1 (by omega))⟩
      · obtain rfl : x = N := by omega
        have T1 : decide ((x : Int) < (x : Int)) = false := decide_eq_false (by omega)
        go_wp2_with fail
        go_ret2
        unfold SePost
        rw [← HN.out, B_false (show ¬ ∃ y, 0 ≤ y ∧ y < x ∧ P y from fun ⟨y, h1, h2, h3⟩ => Hno.out y h1 h2 h3)]
        exact ⟨_, rfl, (by repeat (first | exact Ext.refl _ | assumption | refine Ext.alloc ?_ _ | refine Ext.drew ?_ | refine Ext.drewN ?_ _ | refine Ext.setCell ?_ (by first | (simp; done) | (simp; omega) | omega) _ | refine Ext.trans ?_ (by assumption))), fun ⟨y, h1, h2, h3⟩ => absurd h3 (Hno.out y h1 h2)⟩
  · obtain ⟨b, off, rfl, hb, hc0⟩ := hcell t rfl
    have ht28 : (t : Int) + 1 ≤ 28 := by omega
    have Hl : Hid (Ints w 0 w.heap.size (.slice (some ⟨b, off, none⟩) 1 c) [(t : Int)]) := Lib.hid Hl.out
    clear hcell hgo
    go_enter Tryz.func53, Tryz.ntmps53
    have bb := Boxed.new w [s, k] 27; have bb0 := bb.at0; have bb1 := bb.at1; have bbg := bb.1; have Hbb := Lib.hid bb; clear bb
    go_wp2_with fail
    go_loopg [9] (N - (t + 1)) (fun q i wr => ∃ x : Nat, x + q = N ∧ (t + 1) ≤ x ∧ i = .int .i64 x ∧ Ext w wr ∧ Boxed wr w.heap.size [s, k] ∧ Hid (∀ y, (t + 1) ≤ y → y < x → ¬ P y))
    case atStart => exact ⟨(t + 1), by omega, by omega, by go_num, (by repeat (first | exact Ext.refl _ | assumption | refine Ext.alloc ?_ _ | refine Ext.drew ?_ | refine Ext.drewN ?_ _ | refine Ext.setCell ?_ (by first | (simp; done) | (simp; omega) | omega) _ | refine Ext.trans ?_ (by assumption))), Hbb.out.ext (by repeat (first | exact Ext.refl _ | assumption | refine Ext.alloc ?_ _ | refine Ext.drew ?_ | refine Ext.drewN ?_ _ | refine Ext.setCell ?_ (by first | (simp; done) | (simp; omega) | omega) _ | refine Ext.trans ?_ (by assumption))), Lib.hid (fun y h1 h2 => absurd h1 (by omega))⟩
    clear bb0 bb1 bbg Hbb
    case round =>
      obtain ⟨x, hxq, hfx, rfl, hxr, hnb, Hno⟩ := hrel
      have nb := hnb; have nb0 := nb.at0; have nb1 := nb.at1; have nbg := nb.1; have Hnb := Lib.hid nb; clear nb
      clear hnb
      go_wp2_with fail
      refine Calls.mono (spec_l21Count s k n wr (H.out.up hxr) ⟨by omega, by omega⟩) ?_
      rintro e w2 ⟨rfl, hx2⟩
      have e1 : (n.sets.length : Int) + n.links.length = (N : Int) := by rw [HN.out]; unfold allS; omega
      rw [e1]
      have hxw2 : Ext w w2 := hxr.trans hx2
      have Hn2 := Lib.hid (Hnb.out.ext hx2)
      have hz2 := hxw2.size
      clear nb0 nb1 nbg Hnb hx2 hxr
      have nb := Hn2.out; have nb0 := nb.at0; have nb1 := nb.at1; have nbg := nb.1; have Hnb := Lib.hid nb; clear nb
      by_cases hlt : x < N
      · have T1 : decide ((x : Int) < (N : Int)) = true := decide_eq_true (by omega)
        have T2 : decide (x < N) = true := decide_eq_true hlt
        go_wp2_with fail
        go_region_law (first
          | (refine step_append_row rfl (.tmp 38) (.tmp 40) 31 rfl w2.heap.size 2 1 8 Tryz.underlying31 (by kernel_rfl) (by omega) _ [(t : Int)].length 1 _ rfl (.inl (ownsRow_mono (row_ext hu (by repeat (first | exact Ext.refl _ | assumption | refine Ext.alloc ?_ _ | refine Ext.drew ?_ | refine Ext.drewN ?_ _ | refine Ext.setCell ?_ (by first | (simp; done) | (simp; omega) | omega) _ | refine Ext.trans ?_ (by assumption)))) (by first | (simp; done) | (simp; omega) | omega))) (.inl (ownsRow_mono (row_ext hu (by repeat (first | exact Ext.refl _ | assumption | refine Ext.alloc ?_ _ | refine Ext.drew ?_ | refine Ext.drewN ?_ _ | refine Ext.setCell ?_ (by first | (simp; done) | (simp; omega) | omega) _ | refine Ext.trans ?_ (by assumption)))) (by first | (simp; done) | (simp; omega) | omega))) 0 _ _ (intCell [(x : Int)]) rfl (by first | exact (Boxed.new w3 [.int .i64 (x : Int)] 2).row rfl (int_cells _) | exact (((Boxed.new w2 [.int .i64 (x : Int)] 2).ext ((Ext.refl _).drew)).ext hx3).row rfl (int_cells _)) (fun _ _ => rfl) (by simp [maxLen]) (by simp) (by have := hx3.size; simp at this ⊢; omega) ?_; intro v4 w4 hown4 hput4; obtain ⟨A4, c4, rfl⟩ := ownsRow_len hown4; have Hx4 : Hid (Ext w2 w4) := Lib.hid (hput4.ext (show Ext w2 _ from (by repeat (first | exact Ext.refl _ | assumption | refine Ext.alloc ?_ _ | refine Ext.drew ?_ | refine Ext.drewN ?_ _ | refine Ext.setCell ?_ (by first | (simp; done) | (simp; omega) | omega) _ | refine Ext.trans ?_ (by assumption)))) (Nat.le_refl _)); obtain ⟨g4, hg4, ho4⟩ := Own.of_owned (f := intCell ([(t : Int)] ++ [(x : Int)])) (show w4.ownsRow w2.heap.size 2 1 _ ([(t : Int)] ++ [(x : Int)]).length (cellsOf (([(t : Int)] ++ [(x : Int)]).length * 1) (intCell ([(t : Int)] ++ [(x : Int)]))) from by rw [← intCells_push, List.length_append]; exact hown4); have Hg4 := Lib.hid hg4; have Ho4 := Lib.hid ho4; have eb := Hn2.out.ext Hx4.out; have eb0 := eb.at0; have eb1 := eb.at1; have ebg := eb.1; have Heb := Lib.hid eb; clear eb; clear hown4 hput4 hg4 ho4)
          | (go_simp; go_at_call 106; refine Calls.mono (spec_l01Own _ [(t : Int)] _ (Hl.out.up (hxw2.trans (by repeat (first | exact Ext.refl _ | assumption | refine Ext.alloc ?_ _ | refine Ext.drew ?_ | refine Ext.drewN ?_ _ | refine Ext.setCell ?_ (by first | (simp; done) | (simp; omega) | omega) _ | refine Ext.trans ?_ (by assumption))))) (by simp)) ?_; rintro e w3 ⟨uv, rfl, hx3, hu⟩; obtain ⟨Au, cu, rfl⟩ := ownsRow_len hu; have cb := Hn2.out.ext (show Ext w2 w3 from (by repeat (first | exact Ext.refl _ | assumption | refine Ext.alloc ?_ _ | refine Ext.drew ?_ | refine Ext.drewN ?_ _ | refine Ext.setCell ?_ (by first | (simp; done) | (simp; omega) | omega) _ | refine Ext.trans ?_ (by assumption)))); have cb0 := cb.at0; have cb1 := cb.at1; have cbg := cb.1; have Hcb := Lib.hid cb; clear cb)
          | (go_simp; go_at_call 53; refine Calls.mono (Hih.out x hfx hlt _ g4 lo _ (H.out.up (hxw2.trans Hx4.out)) Ho4.out (fun h0 => by have := (Hg4.out h0).2; have := Hlo.out; omega) (by have := Hlo.out; have := Hx4.out.size; omega)) ?_; rintro e w5 ⟨v5, rfl, hx5, hv5⟩))
        all_goals
          have Hx5 : Hid (Ext w w5) := Lib.hid ((hxw2.trans Hx4.out).trans hx5)
          have Hv5 := Lib.hid hv5
          have Hb5 := Lib.hid ((Hn2.out.ext Hx4.out).ext hx5)
          clear hv5
          by_cases hp : P x
          · have Hp := Lib.hid hp
            have Hfi := Lib.hid (firstP_from (N := N) hfx hlt Hno.out hp)
            obtain ⟨g5, ho5, hg5⟩ := Hv5.out hp
            obtain ⟨A5, c5, rfl⟩ := ho5.len
            have Ho5 := Lib.hid ho5
            have Hg5 := Lib.hid hg5
            rw [B_true hp]
            clear hp ho5 hg5
            go_wp2_with fail
            go_ret2
            unfold SePost
            rw [← HN.out, Hfi.out, B_true (show ∃ x, (t + 1) ≤ x ∧ x < N ∧ P x from ⟨x, hfx, hlt, Hp.out⟩)]
            exact ⟨_, rfl, Hx5.out, fun _ => ⟨g5, Ho5.out, Hg5.out⟩⟩
          · have Hp := Lib.hid hp
            have hx5w := Hx5.out
            rw [B_false hp]
            clear hp
            go_wp2_with fail
            go_roundg (N - (x + 1))
            case measure => omega
            case rel => exact ⟨x + 1, by omega, by omega, by go_num, hx5w, Hb5.out, Lib.hid (fun y h1 h2 => by
              by_cases e : y = x
              · subst e; exact Hp.out
              · exact Hno.out y h1 (by omega))⟩
      · obtain rfl : x = N := by omega
        have T1 : decide ((x : Int) < (x : Int)) = false := decide_eq_false (by omega)
        go_wp2_with fail
        go_ret2
        unfold SePost
        rw [← HN.out, B_false (show ¬ ∃ y, (t + 1) ≤ y ∧ y < x ∧ P y from fun ⟨y, h1, h2, h3⟩ => Hno.out y h1 h2 h3)]
        exact ⟨_, rfl, (by repeat (first | exact Ext.refl _ | assumption | refine Ext.alloc ?_ _ | refine Ext.drew ?_ | refine Ext.drewN ?_ _ | refine Ext.setCell ?_ (by first | (simp; done) | (simp; omega) | omega) _ | refine Ext.trans ?_ (by assumption))), fun ⟨y, h1, h2, h3⟩ => absurd h3 (Hno.out y h1 h2)⟩
end Go.Proofs.YtfajmlkiidnhlaaGreat
