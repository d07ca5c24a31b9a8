/- Contracts: TightestGap. -/
import Derived.Test.YtfajmlkiidnhlaaRe
import Derived.Test.YtfajmlkiidnhlaaJ
namespace Go.Proofs.Ytfajmlkiidnhlaa
set_option linter.unusedVariables false
set_option linter.unusedSimpArgs false
open Go.RowKit
attribute [local go_sem] cell_onto

noncomputable def gapX (n : Net) (a : Int) : List Int := upV n.links (upStart n.sets.length a.toNat)
def GapIn (n : Net) (a : Int) : Prop := 0 ≤ a ∧ a ≤ (n.sets.length : Int) - 1
def GapOk (n : Net) (a b : Int) : Prop := UpOk n.links (upStart n.sets.length a.toNat) ∧ UpOk n.links (upStart n.sets.length b.toNat) ∧ ¬ inAt (gapX n a) a.toNat < 0 ∧ ¬ inAt (gapX n b) b.toNat < 0 ∧ ¬ inAt (gapX n a) b.toNat < -inAt (gapX n b) a.toNat
noncomputable def gapE (n : Net) (a b : Int) : Int := bif B (NetOk n) then (bif B (GapIn n a ∧ GapIn n b) then (bif B (GapOk n a b) then 0 else 5) else 2) else 1
noncomputable def gapP (n : Net) (a b : Int) : Int := bif B (gapE n a b = 0) then -inAt (gapX n b) a.toNat else 0
noncomputable def gapQ (n : Net) (a b : Int) : Int := bif B (gapE n a b = 0) then inAt (gapX n a) b.toNat else 0
noncomputable def gapT (n : Net) (a b : Int) : Value := .tuple #[.int .i64 (gapP n a b), .int .i64 (gapQ n a b), .int .i64 (gapE n a b)]
theorem gapT_no {n : Net} {a b c : Int} (h : gapE n a b = c) (h0 : c ≠ 0) : gapT n a b = .tuple #[.int .i64 0, .int .i64 0, .int .i64 c] := by
  unfold gapT gapP gapQ
  rw [B_false (by omega), h]
  rfl
theorem gap_net {n : Net} {a b : Int} (h : ¬ NetOk n) : gapT n a b = .tuple #[.int .i64 0, .int .i64 0, .int .i64 1] := gapT_no (by unfold gapE; rw [B_false h]; rfl) (by omega)
theorem gap_out {n : Net} {a b : Int} (h : NetOk n) (h2 : ¬ (GapIn n a ∧ GapIn n b)) : gapT n a b = .tuple #[.int .i64 0, .int .i64 0, .int .i64 2] := gapT_no (by unfold gapE; rw [B_true h, B_false h2]; rfl) (by omega)
theorem gap_bad {n : Net} {a b : Int} (h : NetOk n) (h1 : GapIn n a) (h2 : GapIn n b) (h3 : ¬ GapOk n a b) : gapT n a b = .tuple #[.int .i64 0, .int .i64 0, .int .i64 5] := gapT_no (by unfold gapE; rw [B_true h, B_true ⟨h1, h2⟩, B_false h3]; rfl) (by omega)
theorem gap_ok {n : Net} {a b : Int} (h : NetOk n) (h1 : GapIn n a) (h2 : GapIn n b) (h3 : GapOk n a b) : gapT n a b = .tuple #[.int .i64 (-inAt (gapX n b) a.toNat), .int .i64 (inAt (gapX n a) b.toNat), .int .i64 0] := by
  have e : gapE n a b = 0 := by unfold gapE; rw [B_true h, B_true ⟨h1, h2⟩, B_true h3]; rfl
  unfold gapT gapP gapQ
  rw [e, B_true rfl]
  rfl
theorem gapX_len (n : Net) (a : Int) : (gapX n a).length = n.sets.length := by unfold gapX upV; rw [upX_len, upStart_len]
theorem gapX_bnd {n : Net} (h : NetOk n) (a : Int) (i : Nat) (hi : i < n.sets.length) : -500000000 ≤ inAt (gapX n a) i ∧ inAt (gapX n a) i ≤ 730499 := by
  have := reach_bnd (hs := n.links) (N := n.sets.length) (a := a.toNat) (r := n.sets.length) (j := 0) h.2.2.2 h.1 (by have := h.2.1; omega) (by omega) (by omega) i hi
  unfold gapX upV
  rw [upStart_len]
  exact this
theorem Ints.cells {w : World} {lo hi : Nat} {v : Value} {l : List Int} (h : Ints w lo hi v l) (h0 : 0 < l.length) : ∃ b off c, v = .slice (some ⟨b, off, none⟩) l.length c ∧ b < hi ∧ ∀ i, i < l.length → w.cell? ⟨b, off + i, none⟩ = some (.int .i64 (inAt l i)) := by
  obtain ⟨hm, A, c, hv, hc, hr⟩ := h
  obtain ⟨b, off, rfl, _, hb, hi⟩ := hr h0
  exact ⟨b, off, c, hv, hb, fun i hi' => hi i (by omega)⟩
set_option maxRecDepth 100000 in
set_option maxHeartbeats 8000000 in
theorem impl_TightestGap0 (s k : Value) (n : Net) (a b : Int) (w : World) (h : NetIn w s k n) :
    Calls Try.prog 17 #[.agg #[s, k], .int .i64 a, .int .i64 b] w (RetX (gapT n a b) w) := by
  obtain ⟨As, cs, rfl, hns, hcs⟩ := h.1.len
  have H := Lib.hid h
  clear h
  go_enter Try.func17, Try.ntmps17
  go_wp2_with fail
  refine Calls.mono (impl_IsNetwork _ k n _ (H.out.up (by repeat (first | exact Ext.refl _ | assumption | refine Ext.alloc ?_ _ | refine Ext.drew ?_ | refine Ext.drewN ?_ _ | refine Ext.setCell ?_ (by first | (simp; done) | (simp; omega) | omega) _ | refine Ext.trans ?_ (by assumption))))) ?_
  rintro e w1 ⟨rfl, hx1⟩
  have hb := (Boxed.new w [.slice As n.sets.length cs, k] 27).ext hx1; have hb0 := hb.at0; have hb1 := hb.at1; have hbg := hb.1; have Hhb := Lib.hid hb; clear hb
  have hx : Ext w w1 := (by repeat (first | exact Ext.refl _ | assumption | refine Ext.alloc ?_ _ | refine Ext.drew ?_ | refine Ext.drewN ?_ _ | refine Ext.setCell ?_ (by first | (simp; done) | (simp; omega) | omega) _ | refine Ext.trans ?_ (by assumption)))
  have Hb1 := Lib.hid Hhb.out
  clear hx1
  by_cases hok : NetOk n
  · have Hok := Lib.hid hok
    have h8 := hok.1
    rw [B_true hok]
    clear hok
    by_cases ha : GapIn n a
    · have Ha := Lib.hid (B_true (show 0 ≤ a ∧ a ≤ (n.sets.length : Int) - 1 from ha))
      have HA := Lib.hid ha
      obtain ⟨ha0, ha1⟩ := ha
      by_cases hb : GapIn n b
      · have Hbb := Lib.hid (B_true (show 0 ≤ b ∧ b ≤ (n.sets.length : Int) - 1 from hb))
        have HB := Lib.hid hb
        obtain ⟨hb0', hb1'⟩ := hb
        go_wp2_with fail
        refine Calls.mono (impl_within_b Ha.out _) ?_
        rintro e w' ⟨rfl, rfl⟩
        go_wp2_with fail
        refine Calls.mono (impl_within_b Hbb.out _) ?_
        rintro e w' ⟨rfl, rfl⟩
        go_wp2_with fail
        refine Calls.mono (impl_reachOf _ k n a _ (H.out.up hx) Hok.out ⟨ha0, by omega⟩) ?_
        rintro e w2 ⟨v1, rfl, hx2, hv1⟩
        have mb := Hb1.out.ext hx2; have mb0 := mb.at0; have mb1 := mb.at1; have mbg := mb.1; have Hmb := Lib.hid mb; clear mb
        have Hv1 := Lib.hid hv1
        clear hv1 hb0 hb1 hbg Hhb
        go_wp2_with fail
        refine Calls.mono (impl_reachOf _ k n b _ (H.out.up (by repeat (first | exact Ext.refl _ | assumption | refine Ext.alloc ?_ _ | refine Ext.drew ?_ | refine Ext.drewN ?_ _ | refine Ext.setCell ?_ (by first | (simp; done) | (simp; omega) | omega) _ | refine Ext.trans ?_ (by assumption)))) Hok.out ⟨hb0', by omega⟩) ?_
        rintro e w3 ⟨v2, rfl, hx3, hv2⟩
        have Hv2 := Lib.hid hv2
        have hxw3 : Ext w w3 := (by repeat (first | exact Ext.refl _ | assumption | refine Ext.alloc ?_ _ | refine Ext.drew ?_ | refine Ext.drewN ?_ _ | refine Ext.setCell ?_ (by first | (simp; done) | (simp; omega) | omega) _ | refine Ext.trans ?_ (by assumption)))
        clear hv2 mb0 mb1 mbg Hmb Hb1
        have hfin : ∀ w4, Ext w3 w4 → ¬ GapOk n a b → RetX (gapT n a b) w (.returned (.tuple #[.int .i64 0, .int .i64 0, .int .i64 5])) w4 := fun w4 hx4 hbad => ⟨by rw [gap_bad Hok.out HA.out HB.out hbad], hxw3.trans hx4⟩
        have Hfin := Lib.hid hfin
        clear hfin
        by_cases hoa : UpOk n.links (upStart n.sets.length a.toNat)
        · have hi1 := (Hv1.out hoa).up hx3
          have Hoa := Lib.hid hoa
          rw [B_true hoa]
          clear hoa
          by_cases hob : UpOk n.links (upStart n.sets.length b.toNat)
          · have hi2 := Hv2.out hob
            have Hob := Lib.hid hob
            rw [B_true hob]
            clear hob
            have HX := Lib.hid (gapX_len n a)
            have HY := Lib.hid (gapX_len n b)
            obtain ⟨g1, o1, c1, rfl, hg1, hc1⟩ := Ints.cells hi1 (by rw [show (upV n.links (upStart n.sets.length a.toNat)).length = n.sets.length from HX.out]; omega)
            obtain ⟨g2, o2, c2, rfl, hg2, hc2⟩ := Ints.cells hi2 (by rw [show (upV n.links (upStart n.sets.length b.toNat)).length = n.sets.length from HY.out]; omega)
            have Bnd1 := Lib.hid (gapX_bnd Hok.out a)
            have Bnd2 := Lib.hid (gapX_bnd Hok.out b)
            rw [show (upV n.links (upStart n.sets.length a.toNat)).length = n.sets.length from HX.out] at hc1 ⊢
            rw [show (upV n.links (upStart n.sets.length b.toNat)).length = n.sets.length from HY.out] at hc2 ⊢
            have Hx' : Hid (upV n.links (upStart n.sets.length a.toNat) = gapX n a) := Lib.hid rfl
            have Hy' : Hid (upV n.links (upStart n.sets.length b.toNat) = gapX n b) := Lib.hid rfl
            rw [Hx'.out] at hc1
            rw [Hy'.out] at hc2
            have k1 := hc1 a.toNat (by omega)
            have k2 := hc1 b.toNat (by omega)
            have k3 := hc2 a.toNat (by omega)
            have k4 := hc2 b.toNat (by omega)
            obtain ⟨d1, d2⟩ := Bnd1.out a.toNat (by omega)
            obtain ⟨d3, d4⟩ := Bnd1.out b.toNat (by omega)
            obtain ⟨d5, d6⟩ := Bnd2.out a.toNat (by omega)
            obtain ⟨d7, d8⟩ := Bnd2.out b.toNat (by omega)
            have haN : a < (n.sets.length : Int) := by omega
            have hbN : b < (n.sets.length : Int) := by omega
            clear hc1 hc2 hi1 hi2
            have W1 : IntKind.i64.wrap (-inAt (gapX n b) a.toNat) = -inAt (gapX n b) a.toNat := IntWalk.i64_in _ (by omega)
            by_cases t1 : inAt (gapX n a) a.toNat < 0
            · have T1 : decide (inAt (gapX n a) a.toNat < 0) = true := decide_eq_true t1
              have Ht := Lib.hid t1
              clear t1
              go_wp2_with fail
              (refine wp_region_onto prog_mixed (by kernel_rfl) ?_; (repeat (go_big_quiet_step ((fail)))); refine onto_end ?_; intro w4 hx4)
              go_wp2_with fail
              refine bodyPost_ret (v := .tuple #[.int .i64 0, .int .i64 0, .int .i64 5]) (by simp [results, Try.results17, go_sem, *]) rfl ?_
              exact Hfin.out w4 (by first | exact hx4 | exact (by repeat (first | exact Ext.refl _ | assumption | refine Ext.alloc ?_ _ | refine Ext.drew ?_ | refine Ext.drewN ?_ _ | refine Ext.setCell ?_ (by first | (simp; done) | (simp; omega) | omega) _ | refine Ext.trans ?_ (by assumption)))) (fun hg => hg.2.2.1 Ht.out)
            have T1 : decide (inAt (gapX n a) a.toNat < 0) = false := decide_eq_false t1
            by_cases t2 : inAt (gapX n b) b.toNat < 0
            · have T2 : decide (inAt (gapX n b) b.toNat < 0) = true := decide_eq_true t2
              have Ht := Lib.hid t2
              clear t2
              go_wp2_with fail
              (refine wp_region_onto prog_mixed (by kernel_rfl) ?_; (repeat (go_big_quiet_step ((fail)))); refine onto_end ?_; intro w4 hx4)
              go_wp2_with fail
              refine bodyPost_ret (v := .tuple #[.int .i64 0, .int .i64 0, .int .i64 5]) (by simp [results, Try.results17, go_sem, *]) rfl ?_
              exact Hfin.out w4 (by first | exact hx4 | exact (by repeat (first | exact Ext.refl _ | assumption | refine Ext.alloc ?_ _ | refine Ext.drew ?_ | refine Ext.drewN ?_ _ | refine Ext.setCell ?_ (by first | (simp; done) | (simp; omega) | omega) _ | refine Ext.trans ?_ (by assumption)))) (fun hg => hg.2.2.2.1 Ht.out)
            have T2 : decide (inAt (gapX n b) b.toNat < 0) = false := decide_eq_false t2
            by_cases t3 : inAt (gapX n a) b.toNat < -inAt (gapX n b) a.toNat
            · have T3 : decide (inAt (gapX n a) b.toNat < -inAt (gapX n b) a.toNat) = true := decide_eq_true t3
              have Ht := Lib.hid t3
              clear t3
              go_wp2_with fail
              (refine wp_region_onto prog_mixed (by kernel_rfl) ?_; (repeat (go_big_quiet_step ((fail)))); refine onto_end ?_; intro w4 hx4)
              go_wp2_with fail
              refine bodyPost_ret (v := .tuple #[.int .i64 0, .int .i64 0, .int .i64 5]) (by simp [results, Try.results17, go_sem, *]) rfl ?_
              exact Hfin.out w4 (by first | exact hx4 | exact (by repeat (first | exact Ext.refl _ | assumption | refine Ext.alloc ?_ _ | refine Ext.drew ?_ | refine Ext.drewN ?_ _ | refine Ext.setCell ?_ (by first | (simp; done) | (simp; omega) | omega) _ | refine Ext.trans ?_ (by assumption)))) (fun hg => hg.2.2.2.2 Ht.out)
            have T3 : decide (inAt (gapX n a) b.toNat < -inAt (gapX n b) a.toNat) = false := decide_eq_false t3
            have Hgo := Lib.hid (gap_ok Hok.out HA.out HB.out ⟨Hoa.out, Hob.out, t1, t2, t3⟩)
            clear t1 t2 t3
            go_wp2_with fail
            (refine wp_region_onto prog_mixed (by kernel_rfl) ?_; (repeat (go_big_quiet_step ((fail)))); refine onto_end ?_; intro w4 hx4)
            have z1 : w4.cell? ⟨g2, o2 + a.toNat, none⟩ = some (.int .i64 (inAt (gapX n b) a.toNat)) := ((show Ext w3 w4 from (by repeat (first | exact Ext.refl _ | assumption | refine Ext.alloc ?_ _ | refine Ext.drew ?_ | refine Ext.drewN ?_ _ | refine Ext.setCell ?_ (by first | (simp; done) | (simp; omega) | omega) _ | refine Ext.trans ?_ (by assumption)))).cell (p := ⟨g2, o2 + a.toNat, none⟩) hg2).trans k3
            have z2 : w4.cell? ⟨g1, o1 + b.toNat, none⟩ = some (.int .i64 (inAt (gapX n a) b.toNat)) := ((show Ext w3 w4 from (by repeat (first | exact Ext.refl _ | assumption | refine Ext.alloc ?_ _ | refine Ext.drew ?_ | refine Ext.drewN ?_ _ | refine Ext.setCell ?_ (by first | (simp; done) | (simp; omega) | omega) _ | refine Ext.trans ?_ (by assumption)))).cell (p := ⟨g1, o1 + b.toNat, none⟩) hg1).trans k2
            have hz4 := Ext.size (show Ext w3 w4 from (by repeat (first | exact Ext.refl _ | assumption | refine Ext.alloc ?_ _ | refine Ext.drew ?_ | refine Ext.drewN ?_ _ | refine Ext.setCell ?_ (by first | (simp; done) | (simp; omega) | omega) _ | refine Ext.trans ?_ (by assumption))))
            have hg1' : g1 < w4.heap.size := by omega
            have hg2' : g2 < w4.heap.size := by omega
            go_wp2_with fail
            (refine wp_region_onto prog_mixed (by kernel_rfl) ?_; (repeat (go_big_quiet_step ((fail)))); refine onto_end ?_; intro w5 hx5)
            go_wp2_with fail
            refine bodyPost_ret (v := .tuple #[.int .i64 (-inAt (gapX n b) a.toNat), .int .i64 (inAt (gapX n a) b.toNat), .int .i64 0]) (by simp [results, Try.results17, go_sem, *]) rfl ?_
            exact ⟨by rw [Hgo.out], (hxw3.trans (show Ext w3 w4 from (by repeat (first | exact Ext.refl _ | assumption | refine Ext.alloc ?_ _ | refine Ext.drew ?_ | refine Ext.drewN ?_ _ | refine Ext.setCell ?_ (by first | (simp; done) | (simp; omega) | omega) _ | refine Ext.trans ?_ (by assumption))))).trans (show Ext w4 w5 from (by repeat (first | exact Ext.refl _ | assumption | refine Ext.alloc ?_ _ | refine Ext.drew ?_ | refine Ext.drewN ?_ _ | refine Ext.setCell ?_ (by first | (simp; done) | (simp; omega) | omega) _ | refine Ext.trans ?_ (by assumption))))⟩
          · have Hob := Lib.hid hob
            rw [B_false hob]
            clear hob
            go_wp2_with fail
            (refine wp_region_onto prog_mixed (by kernel_rfl) ?_; (repeat (go_big_quiet_step ((fail)))); refine onto_end ?_; intro w4 hx4)
            go_wp2_with fail
            refine bodyPost_ret (v := .tuple #[.int .i64 0, .int .i64 0, .int .i64 5]) (by simp [results, Try.results17, go_sem, *]) rfl ?_
            exact Hfin.out w4 (by first | exact hx4 | exact (by repeat (first | exact Ext.refl _ | assumption | refine Ext.alloc ?_ _ | refine Ext.drew ?_ | refine Ext.drewN ?_ _ | refine Ext.setCell ?_ (by first | (simp; done) | (simp; omega) | omega) _ | refine Ext.trans ?_ (by assumption)))) (fun hg => Hob.out hg.2.1)
        · have Hoa := Lib.hid hoa
          rw [B_false hoa]
          clear hoa
          go_wp2_with fail
          (refine wp_region_onto prog_mixed (by kernel_rfl) ?_; (repeat (go_big_quiet_step ((fail)))); refine onto_end ?_; intro w4 hx4)
          go_wp2_with fail
          refine bodyPost_ret (v := .tuple #[.int .i64 0, .int .i64 0, .int .i64 5]) (by simp [results, Try.results17, go_sem, *]) rfl ?_
          exact Hfin.out w4 (by first | exact hx4 | exact (by repeat (first | exact Ext.refl _ | assumption | refine Ext.alloc ?_ _ | refine Ext.drew ?_ | refine Ext.drewN ?_ _ | refine Ext.setCell ?_ (by first | (simp; done) | (simp; omega) | omega) _ | refine Ext.trans ?_ (by assumption)))) (fun hg => Hoa.out hg.1)
      · have Hbb := Lib.hid (B_false (show ¬ (0 ≤ b ∧ b ≤ (n.sets.length : Int) - 1) from hb))
        have Hgo := Lib.hid (gap_out (n := n) (a := a) (b := b) Hok.out (fun h => hb h.2))
        clear hb
        go_wp2_with fail
        refine Calls.mono (impl_within_b Ha.out _) ?_
        rintro e w' ⟨rfl, rfl⟩
        go_wp2_with fail
        refine Calls.mono (impl_within_b Hbb.out _) ?_
        rintro e w' ⟨rfl, rfl⟩
        go_wp2_with fail
        refine bodyPost_ret (v := .tuple #[.int .i64 0, .int .i64 0, .int .i64 2]) (by simp [results, Try.results17, go_sem, *]) rfl ?_
        exact ⟨by rw [Hgo.out], (by repeat (first | exact Ext.refl _ | assumption | refine Ext.alloc ?_ _ | refine Ext.drew ?_ | refine Ext.drewN ?_ _ | refine Ext.setCell ?_ (by first | (simp; done) | (simp; omega) | omega) _ | refine Ext.trans ?_ (by assumption)))⟩
    · have Ha := Lib.hid (B_false (show ¬ (0 ≤ a ∧ a ≤ (n.sets.length : Int) - 1) from ha))
      have Hgo := Lib.hid (gap_out (n := n) (a := a) (b := b) Hok.out (fun h => ha h.1))
      clear ha
      go_wp2_with fail
      refine Calls.mono (impl_within_b Ha.out _) ?_
      rintro e w' ⟨rfl, rfl⟩
      go_wp2_with fail
      refine bodyPost_ret (v := .tuple #[.int .i64 0, .int .i64 0, .int .i64 2]) (by simp [results, Try.results17, go_sem, *]) rfl ?_
      exact ⟨by rw [Hgo.out], (by repeat (first | exact Ext.refl _ | assumption | refine Ext.alloc ?_ _ | refine Ext.drew ?_ | refine Ext.drewN ?_ _ | refine Ext.setCell ?_ (by first | (simp; done) | (simp; omega) | omega) _ | refine Ext.trans ?_ (by assumption)))⟩
  · have Hgo := Lib.hid (gap_net (n := n) (a := a) (b := b) hok)
    rw [B_false hok]
    clear hok
    go_wp2_with fail
    refine bodyPost_ret (v := .tuple #[.int .i64 0, .int .i64 0, .int .i64 1]) (by simp [results, Try.results17, go_sem, *]) rfl ?_
    exact ⟨by rw [Hgo.out], (by repeat (first | exact Ext.refl _ | assumption | refine Ext.alloc ?_ _ | refine Ext.drew ?_ | refine Ext.drewN ?_ _ | refine Ext.setCell ?_ (by first | (simp; done) | (simp; omega) | omega) _ | refine Ext.trans ?_ (by assumption)))⟩
theorem impl_TightestGap (s k : Value) (n : Net) (a b : Int) (w : World) (h : NetIn w s k n) :
    Calls Try.prog 17 #[.agg #[s, k], .int .i64 a, .int .i64 b] w (RetX (.tuple #[.int .i64 (gapP n a b), .int .i64 (gapQ n a b), .int .i64 (gapE n a b)]) w) := impl_TightestGap0 s k n a b w h
set_option maxRecDepth 100000 in
set_option maxHeartbeats 8000000 in
theorem spec_TightestGap0 (s k : Value) (n : Net) (a b : Int) (w : World) (h : NetIn w s k n) :
    Calls Try.prog 18 #[.agg #[s, k], .int .i64 a, .int .i64 b] w (RetX (gapT n a b) w) := by
  obtain ⟨As, cs, rfl, hns, hcs⟩ := h.1.len
  have H := Lib.hid h
  clear h
  go_enter Try.func18, Try.ntmps18
  go_wp2_with fail
  refine Calls.mono (spec_IsNetwork _ k n _ (H.out.up (by repeat (first | exact Ext.refl _ | assumption | refine Ext.alloc ?_ _ | refine Ext.drew ?_ | refine Ext.drewN ?_ _ | refine Ext.setCell ?_ (by first | (simp; done) | (simp; omega) | omega) _ | refine Ext.trans ?_ (by assumption))))) ?_
  rintro e w1 ⟨rfl, hx1⟩
  have hb := (Boxed.new w [.slice As n.sets.length cs, k] 27).ext hx1; have hb0 := hb.at0; have hb1 := hb.at1; have hbg := hb.1; have Hhb := Lib.hid hb; clear hb
  have hx : Ext w w1 := (by repeat (first | exact Ext.refl _ | assumption | refine Ext.alloc ?_ _ | refine Ext.drew ?_ | refine Ext.drewN ?_ _ | refine Ext.setCell ?_ (by first | (simp; done) | (simp; omega) | omega) _ | refine Ext.trans ?_ (by assumption)))
  have Hb1 := Lib.hid Hhb.out
  clear hx1
  by_cases hok : NetOk n
  · have Hok := Lib.hid hok
    have h8 := hok.1
    rw [B_true hok]
    clear hok
    by_cases ha : GapIn n a
    · have Ha := Lib.hid (B_true (show 0 ≤ a ∧ a ≤ (n.sets.length : Int) - 1 from ha))
      have HA := Lib.hid ha
      obtain ⟨ha0, ha1⟩ := ha
      by_cases hb : GapIn n b
      · have Hbb := Lib.hid (B_true (show 0 ≤ b ∧ b ≤ (n.sets.length : Int) - 1 from hb))
        have HB := Lib.hid hb
        obtain ⟨hb0', hb1'⟩ := hb
        go_wp2_with fail
        refine Calls.mono (spec_l01In_b Ha.out _) ?_
        rintro e w' ⟨rfl, rfl⟩
        go_wp2_with fail
        refine Calls.mono (spec_l01In_b Hbb.out _) ?_
        rintro e w' ⟨rfl, rfl⟩
        go_wp2_with fail
        refine Calls.mono (spec_l18Upper _ k n a _ (H.out.up hx) Hok.out ⟨ha0, by omega⟩) ?_
        rintro e w2 ⟨v1, rfl, hx2, hv1⟩
        have mb := Hb1.out.ext hx2; have mb0 := mb.at0; have mb1 := mb.at1; have mbg := mb.1; have Hmb := Lib.hid mb; clear mb
        have Hv1 := Lib.hid hv1
        clear hv1 hb0 hb1 hbg Hhb
        go_wp2_with fail
        refine Calls.mono (spec_l18Upper _ k n b _ (H.out.up (by repeat (first | exact Ext.refl _ | assumption | refine Ext.alloc ?_ _ | refine Ext.drew ?_ | refine Ext.drewN ?_ _ | refine Ext.setCell ?_ (by first | (simp; done) | (simp; omega) | omega) _ | refine Ext.trans ?_ (by assumption)))) Hok.out ⟨hb0', by omega⟩) ?_
        rintro e w3 ⟨v2, rfl, hx3, hv2⟩
        have Hv2 := Lib.hid hv2
        have hxw3 : Ext w w3 := (by repeat (first | exact Ext.refl _ | assumption | refine Ext.alloc ?_ _ | refine Ext.drew ?_ | refine Ext.drewN ?_ _ | refine Ext.setCell ?_ (by first | (simp; done) | (simp; omega) | omega) _ | refine Ext.trans ?_ (by assumption)))
        clear hv2 mb0 mb1 mbg Hmb Hb1
        have hfin : ∀ w4, Ext w3 w4 → ¬ GapOk n a b → RetX (gapT n a b) w (.returned (.tuple #[.int .i64 0, .int .i64 0, .int .i64 5])) w4 := fun w4 hx4 hbad => ⟨by rw [gap_bad Hok.out HA.out HB.out hbad], hxw3.trans hx4⟩
        have Hfin := Lib.hid hfin
        clear hfin
        by_cases hoa : UpOk n.links (upStart n.sets.length a.toNat)
        · have hi1 := (Hv1.out hoa).up hx3
          have Hoa := Lib.hid hoa
          rw [B_true hoa]
          clear hoa
          by_cases hob : UpOk n.links (upStart n.sets.length b.toNat)
          · have hi2 := Hv2.out hob
            have Hob := Lib.hid hob
            rw [B_true hob]
            clear hob
            have HX := Lib.hid (gapX_len n a)
            have HY := Lib.hid (gapX_len n b)
            obtain ⟨g1, o1, c1, rfl, hg1, hc1⟩ := Ints.cells hi1 (by rw [show (upV n.links (upStart n.sets.length a.toNat)).length = n.sets.length from HX.out]; omega)
            obtain ⟨g2, o2, c2, rfl, hg2, hc2⟩ := Ints.cells hi2 (by rw [show (upV n.links (upStart n.sets.length b.toNat)).length = n.sets.length from HY.out]; omega)
            have Bnd1 := Lib.hid (gapX_bnd Hok.out a)
            have Bnd2 := Lib.hid (gapX_bnd Hok.out b)
            rw [show (upV n.links (upStart n.sets.length a.toNat)).length = n.sets.length from HX.out] at hc1 ⊢
            rw [show (upV n.links (upStart n.sets.length b.toNat)).length = n.sets.length from HY.out] at hc2 ⊢
            have Hx' : Hid (upV n.links (upStart n.sets.length a.toNat) = gapX n a) := Lib.hid rfl
            have Hy' : Hid (upV n.links (upStart n.sets.length b.toNat) = gapX n b) := Lib.hid rfl
            rw [Hx'.out] at hc1
            rw [Hy'.out] at hc2
            have k1 := hc1 a.toNat (by omega)
            have k2 := hc1 b.toNat (by omega)
            have k3 := hc2 a.toNat (by omega)
            have k4 := hc2 b.toNat (by omega)
            obtain ⟨d1, d2⟩ := Bnd1.out a.toNat (by omega)
            obtain ⟨d3, d4⟩ := Bnd1.out b.toNat (by omega)
            obtain ⟨d5, d6⟩ := Bnd2.out a.toNat (by omega)
            obtain ⟨d7, d8⟩ := Bnd2.out b.toNat (by omega)
            have haN : a < (n.sets.length : Int) := by omega
            have hbN : b < (n.sets.length : Int) := by omega
            clear hc1 hc2 hi1 hi2
            have W1 : IntKind.i64.wrap (-inAt (gapX n b) a.toNat) = -inAt (gapX n b) a.toNat := IntWalk.i64_in _ (by omega)
            by_cases t1 : inAt (gapX n a) a.toNat < 0
            · have T1 : decide (inAt (gapX n a) a.toNat < 0) = true := decide_eq_true t1
              have Ht := Lib.hid t1
              clear t1
              go_wp2_with fail
              (refine wp_region_onto prog_mixed (by kernel_rfl) ?_; (repeat (go_big_quiet_step ((fail)))); refine onto_end ?_; intro w4 hx4)
              go_wp2_with fail
              refine bodyPost_ret (v := .tuple #[.int .i64 0, .int .i64 0, .int .i64 5]) (by simp [results, Try.results18, go_sem, *]) rfl ?_
              exact Hfin.out w4 (by first | exact hx4 | exact (by repeat (first | exact Ext.refl _ | assumption | refine Ext.alloc ?_ _ | refine Ext.drew ?_ | refine Ext.drewN ?_ _ | refine Ext.setCell ?_ (by first | (simp; done) | (simp; omega) | omega) _ | refine Ext.trans ?_ (by assumption)))) (fun hg => hg.2.2.1 Ht.out)
            have T1 : decide (inAt (gapX n a) a.toNat < 0) = false := decide_eq_false t1
            by_cases t2 : inAt (gapX n b) b.toNat < 0
            · have T2 : decide (inAt (gapX n b) b.toNat < 0) = true := decide_eq_true t2
              have Ht := Lib.hid t2
              clear t2
              go_wp2_with fail
              (refine wp_region_onto prog_mixed (by kernel_rfl) ?_; (repeat (go_big_quiet_step ((fail)))); refine onto_end ?_; intro w4 hx4)
              go_wp2_with fail
              refine bodyPost_ret (v := .tuple #[.int .i64 0, .int .i64 0, .int .i64 5]) (by simp [results, Try.results18, go_sem, *]) rfl ?_
              exact Hfin.out w4 (by first | exact hx4 | exact (by repeat (first | exact Ext.refl _ | assumption | refine Ext.alloc ?_ _ | refine Ext.drew ?_ | refine Ext.drewN ?_ _ | refine Ext.setCell ?_ (by first | (simp; done) | (simp; omega) | omega) _ | refine Ext.trans ?_ (by assumption)))) (fun hg => hg.2.2.2.1 Ht.out)
            have T2 : decide (inAt (gapX n b) b.toNat < 0) = false := decide_eq_false t2
            by_cases t3 : inAt (gapX n a) b.toNat < -inAt (gapX n b) a.toNat
            · have T3 : decide (inAt (gapX n a) b.toNat < -inAt (gapX n b) a.toNat) = true := decide_eq_true t3
              have Ht := Lib.hid t3
              clear t3
              go_wp2_with fail
              (refine wp_region_onto prog_mixed (by kernel_rfl) ?_; (repeat (go_big_quiet_step ((fail)))); refine onto_end ?_; intro w4 hx4)
              go_wp2_with fail
              refine bodyPost_ret (v := .tuple #[.int .i64 0, .int .i64 0, .int .i64 5]) (by simp [results, Try.results18, go_sem, *]) rfl ?_
              exact Hfin.out w4 (by first | exact hx4 | exact (by repeat (first | exact Ext.refl _ | assumption | refine Ext.alloc ?_ _ | refine Ext.drew ?_ | refine Ext.drewN ?_ _ | refine Ext.setCell ?_ (by first | (simp; done) | (simp; omega) | omega) _ | refine Ext.trans ?_ (by assumption)))) (fun hg => hg.2.2.2.2 Ht.out)
            have T3 : decide (inAt (gapX n a) b.toNat < -inAt (gapX n b) a.toNat) = false := decide_eq_false t3
            have Hgo := Lib.hid (gap_ok Hok.out HA.out HB.out ⟨Hoa.out, Hob.out, t1, t2, t3⟩)
            clear t1 t2 t3
            go_wp2_with fail
            (refine wp_region_onto prog_mixed (by kernel_rfl) ?_; (repeat (go_big_quiet_step ((fail)))); refine onto_end ?_; intro w4 hx4)
            have z1 : w4.cell? ⟨g2, o2 + a.toNat, none⟩ = some (.int .i64 (inAt (gapX n b) a.toNat)) := ((show Ext w3 w4 from (by repeat (first | exact Ext.refl _ | assumption | refine Ext.alloc ?_ _ | refine Ext.drew ?_ | refine Ext.drewN ?_ _ | refine Ext.setCell ?_ (by first | (simp; done) | (simp; omega) | omega) _ | refine Ext.trans ?_ (by assumption)))).cell (p := ⟨g2, o2 + a.toNat, none⟩) hg2).trans k3
            have z2 : w4.cell? ⟨g1, o1 + b.toNat, none⟩ = some (.int .i64 (inAt (gapX n a) b.toNat)) := ((show Ext w3 w4 from (by repeat (first | exact Ext.refl _ | assumption | refine Ext.alloc ?_ _ | refine Ext.drew ?_ | refine Ext.drewN ?_ _ | refine Ext.setCell ?_ (by first | (simp; done) | (simp; omega) | omega) _ | refine Ext.trans ?_ (by assumption)))).cell (p := ⟨g1, o1 + b.toNat, none⟩) hg1).trans k2
            have hz4 := Ext.size (show Ext w3 w4 from (by repeat (first | exact Ext.refl _ | assumption | refine Ext.alloc ?_ _ | refine Ext.drew ?_ | refine Ext.drewN ?_ _ | refine Ext.setCell ?_ (by first | (simp; done) | (simp; omega) | omega) _ | refine Ext.trans ?_ (by assumption))))
            have hg1' : g1 < w4.heap.size := by omega
            have hg2' : g2 < w4.heap.size := by omega
            go_wp2_with fail
            (refine wp_region_onto prog_mixed (by kernel_rfl) ?_; (repeat (go_big_quiet_step ((fail)))); refine onto_end ?_; intro w5 hx5)
            go_wp2_with fail
            refine bodyPost_ret (v := .tuple #[.int .i64 (-inAt (gapX n b) a.toNat), .int .i64 (inAt (gapX n a) b.toNat), .int .i64 0]) (by simp [results, Try.results18, go_sem, *]) rfl ?_
            exact ⟨by rw [Hgo.out], (hxw3.trans (show Ext w3 w4 from (by repeat (first | exact Ext.refl _ | assumption | refine Ext.alloc ?_ _ | refine Ext.drew ?_ | refine Ext.drewN ?_ _ | refine Ext.setCell ?_ (by first | (simp; done) | (simp; omega) | omega) _ | refine Ext.trans ?_ (by assumption))))).trans (show Ext w4 w5 from (by repeat (first | exact Ext.refl _ | assumption | refine Ext.alloc ?_ _ | refine Ext.drew ?_ | refine Ext.drewN ?_ _ | refine Ext.setCell ?_ (by first | (simp; done) | (simp; omega) | omega) _ | refine Ext.trans ?_ (by assumption))))⟩
          · have Hob := Lib.hid hob
            rw [B_false hob]
            clear hob
            go_wp2_with fail
            (refine wp_region_onto prog_mixed (by kernel_rfl) ?_; (repeat (go_big_quiet_step ((fail)))); refine onto_end ?_; intro w4 hx4)
            go_wp2_with fail
            refine bodyPost_ret (v := .tuple #[.int .i64 0, .int .i64 0, .int .i64 5]) (by simp [results, Try.results18, go_sem, *]) rfl ?_
            exact Hfin.out w4 (by first | exact hx4 | exact (by repeat (first | exact Ext.refl _ | assumption | refine Ext.alloc ?_ _ | refine Ext.drew ?_ | refine Ext.drewN ?_ _ | refine Ext.setCell ?_ (by first | (simp; done) | (simp; omega) | omega) _ | refine Ext.trans ?_ (by assumption)))) (fun hg => Hob.out hg.2.1)
        · have Hoa := Lib.hid hoa
          rw [B_false hoa]
          clear hoa
          go_wp2_with fail
          (refine wp_region_onto prog_mixed (by kernel_rfl) ?_; (repeat (go_big_quiet_step ((fail)))); refine onto_end ?_; intro w4 hx4)
          go_wp2_with fail
          refine bodyPost_ret (v := .tuple #[.int .i64 0, .int .i64 0, .int .i64 5]) (by simp [results, Try.results18, go_sem, *]) rfl ?_
          exact Hfin.out w4 (by first | exact hx4 | exact (by repeat (first | exact Ext.refl _ | assumption | refine Ext.alloc ?_ _ | refine Ext.drew ?_ | refine Ext.drewN ?_ _ | refine Ext.setCell ?_ (by first | (simp; done) | (simp; omega) | omega) _ | refine Ext.trans ?_ (by assumption)))) (fun hg => Hoa.out hg.1)
      · have Hbb := Lib.hid (B_false (show ¬ (0 ≤ b ∧ b ≤ (n.sets.length : Int) - 1) from hb))
        have Hgo := Lib.hid (gap_out (n := n) (a := a) (b := b) Hok.out (fun h => hb h.2))
        clear hb
        go_wp2_with fail
        refine Calls.mono (spec_l01In_b Ha.out _) ?_
        rintro e w' ⟨rfl, rfl⟩
        go_wp2_with fail
        refine Calls.mono (spec_l01In_b Hbb.out _) ?_
        rintro e w' ⟨rfl, rfl⟩
        go_wp2_with fail
        refine bodyPost_ret (v := .tuple #[.int .i64 0, .int .i64 0, .int .i64 2]) (by simp [results, Try.results18, go_sem, *]) rfl ?_
        exact ⟨by rw [Hgo.out], (by repeat (first | exact Ext.refl _ | assumption | refine Ext.alloc ?_ _ | refine Ext.drew ?_ | refine Ext.drewN ?_ _ | refine Ext.setCell ?_ (by first | (simp; done) | (simp; omega) | omega) _ | refine Ext.trans ?_ (by assumption)))⟩
    · have Ha := Lib.hid (B_false (show ¬ (0 ≤ a ∧ a ≤ (n.sets.length : Int) - 1) from ha))
      have Hgo := Lib.hid (gap_out (n := n) (a := a) (b := b) Hok.out (fun h => ha h.1))
      clear ha
      go_wp2_with fail
      refine Calls.mono (spec_l01In_b Ha.out _) ?_
      rintro e w' ⟨rfl, rfl⟩
      go_wp2_with fail
      refine bodyPost_ret (v := .tuple #[.int .i64 0, .int .i64 0, .int .i64 2]) (by simp [results, Try.results18, go_sem, *]) rfl ?_
      exact ⟨by rw [Hgo.out], (by repeat (first | exact Ext.refl _ | assumption | refine Ext.alloc ?_ _ | refine Ext.drew ?_ | refine Ext.drewN ?_ _ | refine Ext.setCell ?_ (by first | (simp; done) | (simp; omega) | omega) _ | refine Ext.trans ?_ (by assumption)))⟩
  · have Hgo := Lib.hid (gap_net (n := n) (a := a) (b := b) hok)
    rw [B_false hok]
    clear hok
    go_wp2_with fail
    refine bodyPost_ret (v := .tuple #[.int .i64 0, .int .i64 0, .int .i64 1]) (by simp [results, Try.results18, go_sem, *]) rfl ?_
    exact ⟨by rw [Hgo.out], (by repeat (first | exact Ext.refl _ | assumption | refine Ext.alloc ?_ _ | refine Ext.drew ?_ | refine Ext.drewN ?_ _ | refine Ext.setCell ?_ (by first | (simp; done) | (simp; omega) | omega) _ | refine Ext.trans ?_ (by assumption)))⟩
theorem spec_TightestGap (s k : Value) (n : Net) (a b : Int) (w : World) (h : NetIn w s k n) :
    Calls Try.prog 18 #[.agg #[s, k], .int .i64 a, .int .i64 b] w (RetX (.tuple #[.int .i64 (gapP n a b), .int .i64 (gapQ n a b), .int .i64 (gapE n a b)]) w) := spec_TightestGap0 s k n a b w h
end Go.Proofs.Ytfajmlkiidnhlaa
