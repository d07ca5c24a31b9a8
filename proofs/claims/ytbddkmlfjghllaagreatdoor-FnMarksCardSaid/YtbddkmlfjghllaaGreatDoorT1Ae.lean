/- Contract: the reference's sort of marks. (Printed by genAe.py.) -/
import Derived.Test.YtbddkmlfjghllaaGreatDoorT1Ai
import Derived.Test.YtbddkmlfjghllaaGreatDoorT1Ki
import Derived.Deep.RegionLaw
namespace Go.Proofs.YtbddkmlfjghllaaGreatDoor
set_option linter.unusedVariables false
set_option linter.unusedSimpArgs false
open Go.RowKit
attribute [local go_sem] cell_onto

/-- marks in order, of the call's own -/
def SortNew (l : List Nsp) (w : World) (e : Ending) (w' : World) : Prop := ∃ u m, e = .returned u ∧ SortR l l.length m ∧ Ext w w' ∧ RowNsp w' w.heap.size 88 u m
set_option maxRecDepth 100000 in
set_option maxHeartbeats 8000000 in
theorem spec_l16Sorted (v : Value) (l : List Nsp) (w : World) (h : Nsps w 0 w.heap.size v l) (hsm : l.length ≤ 1048576) : Calls Tryz.prog 52 #[v] w (SortNew l w) := by
  obtain ⟨A, c, rfl, hn, hc⟩ := h.len
  have H := Lib.hid h
  clear h
  have Hrow0 := Lib.hid (RowNsp.made w 88)
  go_enter Tryz.func52, Tryz.ntmps52
  go_wp2_with fail
  go_loopg [3, 4, 5] l.length (fun q u3 u4 u5 wr => ∃ (j : Nat) (m : List Nsp) (g cc : Nat), j + q = l.length ∧ u4 = .int .i64 j ∧ u3 = .slice (some ⟨g, 0, none⟩) m.length cc ∧ w.heap.size ≤ g ∧ m.length ≤ cc ∧ Ext w wr ∧ Hid (RowNsp wr w.heap.size 88 u3 m) ∧ Hid (SortR l j m))
  case atStart => exact ⟨0, [], w.heap.size, 0, by omega, rfl, rfl, Nat.le_refl _, Nat.le_refl _, (by repeat (first | exact Ext.refl _ | assumption | refine Ext.alloc ?_ _ | refine Ext.drew ?_ | refine Ext.drewN ?_ _ | refine Ext.setCell ?_ (by first | (simp; done) | (simp; omega) | omega) _ | refine Ext.trans ?_ (by assumption))), Hrow0, Lib.hid rfl⟩
  clear Hrow0
  case round =>
    obtain ⟨j, m, g, cc, hj, rfl, rfl, hg, hcc, hx, Hr, Hq⟩ := hrel
    obtain ⟨wz, rfl⟩ : ∃ x : World, x = wr := ⟨_, rfl⟩
    have hml := Hq.out.len
    by_cases hlt : j < l.length
    · obtain ⟨b, off, rfl, _, hb, h1, h2, h3⟩ := (H.out.ext hx (Nat.le_refl _)).at_ hlt
      have hbz : b < wz.heap.size := Nat.lt_of_lt_of_le hb hx.size
      have Hs1 := Lib.hid (fun m' (h : Ins m (nspAt l j) m') => show SortR l (j + 1) m' from ⟨m, Hq.out, h⟩)
      clear Hq
      generalize nspAt l j = x at *
      go_wp2_with fail
      go_loopg [5] m.length (fun q u5 wp => ∃ p : Nat, p + q = m.length ∧ u5 = .int .i64 p ∧ Ext wz wp ∧ Hid (∀ i, i < p → MkLt (nspAt m i) x))
      case atStart => exact ⟨0, by omega, rfl, Ext.refl _, Lib.hid (fun i hi => absurd hi (by omega))⟩
      case round =>
        obtain ⟨p, hp, rfl, hxp, Hl⟩ := hrel
        have hxw : Ext w wr := hx.trans hxp
        have hbr : b < wr.heap.size := Nat.lt_of_lt_of_le hbz hxp.size
        have c1 : wr.cell? ⟨b, off + j * 3, none⟩ = some (.string x.nm) := (hxp.cell (p := ⟨b, off + j * 3, none⟩) hbz).trans h1
        have c2 : wr.cell? ⟨b, off + j * 3 + 1, none⟩ = some (.int .i64 x.fr) := (hxp.cell (p := ⟨b, off + j * 3 + 1, none⟩) hbz).trans h2
        have c3 : wr.cell? ⟨b, off + j * 3 + 2, none⟩ = some (.int .i64 x.to) := (hxp.cell (p := ⟨b, off + j * 3 + 2, none⟩) hbz).trans h3
        have Hrp := Lib.hid (Hr.out.ext hxp)
        clear h1 h2 h3
        by_cases hpl : p < m.length
        · obtain ⟨g', eg, _, hgr, hcell⟩ := Hrp.out.cells (by omega)
          injection eg with eg
          injection eg with eg
          subst eg
          have k0 := hcell (p * 3) (by omega)
          have k1 := hcell (p * 3 + 1) (by omega)
          have k2 := hcell (p * 3 + 2) (by omega)
          rw [nspCell_0] at k0
          rw [nspCell_1] at k1
          rw [nspCell_2] at k2
          obtain ⟨d0, -⟩ := k0
          obtain ⟨d1, -⟩ := k1
          obtain ⟨d2, f2⟩ := k2
          clear hcell
          by_cases hs : sLt (nspAt m p).nm x.nm
          · have T1 := sl_true hs
            have Hk := Lib.hid (show MkLt (nspAt m p) x from .inl hs)
            clear hs
            go_wp2_with fail
            (refine wp_region_onto prog_mixed (by kernel_rfl) ?_; (repeat (go_big_quiet_step ((fail)))); refine onto_end ?_; intro w2 hx2)
            go_wp2_with fail
            go_roundg (m.length - (p + 1))
            case measure => omega
            case rel => exact ⟨p + 1, by omega, by go_num, hxp.trans hx2, Lib.hid (fun i hi => by
              by_cases e : i = p
              · subst e; exact Hk.out
              · exact Hl.out i (by omega))⟩
          have T1 := sl_false hs
          by_cases he : (nspAt m p).nm = x.nm
          · have T2 := str_is he
            by_cases hf : (nspAt m p).fr < x.fr
            · have T3 : decide ((nspAt m p).fr < x.fr) = true := decide_eq_true hf
              have Hk := Lib.hid (show MkLt (nspAt m p) x from .inr ⟨he, hf⟩)
              clear hs he
              go_wp2_with fail
              (refine wp_region_onto prog_mixed (by kernel_rfl) ?_; (repeat (go_big_quiet_step ((fail)))); refine onto_end ?_; intro w2 hx2)
              go_wp2_with fail
              go_roundg (m.length - (p + 1))
              case measure => omega
              case rel => exact ⟨p + 1, by omega, by go_num, hxp.trans hx2, Lib.hid (fun i hi => by
                by_cases e : i = p
                · subst e; exact Hk.out
                · exact Hl.out i (by omega))⟩
            · have T3 : decide ((nspAt m p).fr < x.fr) = false := decide_eq_false hf
              have Hk := Lib.hid (show ¬ MkLt (nspAt m p) x from fun hh => by
                rcases hh with hh | ⟨_, hh⟩
                · exact hs hh
                · omega)
              have Hpos := Lib.hid (show posM m x p from ⟨by omega, Hl.out, fun _ => Hk.out⟩)
              by_cases hfe : (nspAt m p).fr = x.fr
              · have T4 : ((nspAt m p).fr == x.fr) = true := by simpa using hfe
                have Hin := Lib.hid (Hs1.out _ ⟨p, Hpos.out, .inl ⟨hpl, he, hfe, rfl⟩⟩)
                clear hs he hf hfe
                go_wp2_with fail
                (refine wp_region_onto prog_mixed (by kernel_rfl) ?_; (repeat (go_big_quiet_step ((fail)))); refine onto_end ?_; intro w2 hx2)
                have hbw2 : b < w2.heap.size := Nat.lt_of_lt_of_le hbr hx2.size
                replace c1 : w2.cell? ⟨b, off + j * 3, none⟩ = some (.string x.nm) := (hx2.cell (p := ⟨b, off + j * 3, none⟩) hbr).trans c1
                replace c2 : w2.cell? ⟨b, off + j * 3 + 1, none⟩ = some (.int .i64 x.fr) := (hx2.cell (p := ⟨b, off + j * 3 + 1, none⟩) hbr).trans c2
                replace c3 : w2.cell? ⟨b, off + j * 3 + 2, none⟩ = some (.int .i64 x.to) := (hx2.cell (p := ⟨b, off + j * 3 + 2, none⟩) hbr).trans c3
                have hgw2 : g < w2.heap.size := Nat.lt_of_lt_of_le hgr hx2.size
                replace d0 : w2.cell? ⟨g, p * 3, none⟩ = some (.string (nspAt m p).nm) := (hx2.cell (p := ⟨g, p * 3, none⟩) hgr).trans d0
                replace d1 : w2.cell? ⟨g, p * 3 + 1, none⟩ = some (.int .i64 (nspAt m p).fr) := (hx2.cell (p := ⟨g, p * 3 + 1, none⟩) hgr).trans d1
                replace d2 : w2.cell? ⟨g, p * 3 + 2, none⟩ = some (.int .i64 (nspAt m p).to) := (hx2.cell (p := ⟨g, p * 3 + 2, none⟩) hgr).trans d2
                replace f2 : w2.frozen? ⟨g, p * 3 + 2, none⟩ = false := (hx2.frozen (p := ⟨g, p * 3 + 2, none⟩) hgr).trans f2
                go_wp2_with fail
                (refine wp_region_onto prog_mixed (by kernel_rfl) ?_; (repeat (go_big_quiet_step ((fail)))); refine onto_end ?_; intro w3 hx3)
                have hbw3 : b < w3.heap.size := Nat.lt_of_lt_of_le hbw2 hx3.size
                replace c1 : w3.cell? ⟨b, off + j * 3, none⟩ = some (.string x.nm) := (hx3.cell (p := ⟨b, off + j * 3, none⟩) hbw2).trans c1
                replace c2 : w3.cell? ⟨b, off + j * 3 + 1, none⟩ = some (.int .i64 x.fr) := (hx3.cell (p := ⟨b, off + j * 3 + 1, none⟩) hbw2).trans c2
                replace c3 : w3.cell? ⟨b, off + j * 3 + 2, none⟩ = some (.int .i64 x.to) := (hx3.cell (p := ⟨b, off + j * 3 + 2, none⟩) hbw2).trans c3
                have hgw3 : g < w3.heap.size := Nat.lt_of_lt_of_le hgw2 hx3.size
                replace d0 : w3.cell? ⟨g, p * 3, none⟩ = some (.string (nspAt m p).nm) := (hx3.cell (p := ⟨g, p * 3, none⟩) hgw2).trans d0
                replace d1 : w3.cell? ⟨g, p * 3 + 1, none⟩ = some (.int .i64 (nspAt m p).fr) := (hx3.cell (p := ⟨g, p * 3 + 1, none⟩) hgw2).trans d1
                replace d2 : w3.cell? ⟨g, p * 3 + 2, none⟩ = some (.int .i64 (nspAt m p).to) := (hx3.cell (p := ⟨g, p * 3 + 2, none⟩) hgw2).trans d2
                replace f2 : w3.frozen? ⟨g, p * 3 + 2, none⟩ = false := (hx3.frozen (p := ⟨g, p * 3 + 2, none⟩) hgw2).trans f2
                go_wp2_with fail
                (refine wp_region_last prog_mixed rfl (by kernel_rfl) (by kernel_rfl) (by kernel_rfl) (by kernel_rfl) ?_; simp only [List.dropLast_cons_cons, List.dropLast_singleton]; (repeat (go_big_quiet_step ((fail)))); refine last_end ?_; intro w4 hx4; dsimp only [List.getLast])
                have hbw4 : b < w4.heap.size := Nat.lt_of_lt_of_le hbw3 hx4.size
                replace c1 : w4.cell? ⟨b, off + j * 3, none⟩ = some (.string x.nm) := (hx4.cell (p := ⟨b, off + j * 3, none⟩) hbw3).trans c1
                replace c2 : w4.cell? ⟨b, off + j * 3 + 1, none⟩ = some (.int .i64 x.fr) := (hx4.cell (p := ⟨b, off + j * 3 + 1, none⟩) hbw3).trans c2
                replace c3 : w4.cell? ⟨b, off + j * 3 + 2, none⟩ = some (.int .i64 x.to) := (hx4.cell (p := ⟨b, off + j * 3 + 2, none⟩) hbw3).trans c3
                have hgw4 : g < w4.heap.size := Nat.lt_of_lt_of_le hgw3 hx4.size
                replace d0 : w4.cell? ⟨g, p * 3, none⟩ = some (.string (nspAt m p).nm) := (hx4.cell (p := ⟨g, p * 3, none⟩) hgw3).trans d0
                replace d1 : w4.cell? ⟨g, p * 3 + 1, none⟩ = some (.int .i64 (nspAt m p).fr) := (hx4.cell (p := ⟨g, p * 3 + 1, none⟩) hgw3).trans d1
                replace d2 : w4.cell? ⟨g, p * 3 + 2, none⟩ = some (.int .i64 (nspAt m p).to) := (hx4.cell (p := ⟨g, p * 3 + 2, none⟩) hgw3).trans d2
                replace f2 : w4.frozen? ⟨g, p * 3 + 2, none⟩ = false := (hx4.frozen (p := ⟨g, p * 3 + 2, none⟩) hgw3).trans f2
                go_wp2_with fail
                all_goals
                  go_roundg (l.length - (j + 1))
                  case measure => omega
                  case rel => exact ⟨j + 1, m.set p ⟨(nspAt m p).nm, (nspAt m p).fr, _⟩, g, cc, by omega, by go_num, by rw [List.length_set], hg, by rw [List.length_set]; exact hcc, (by repeat (first | exact Ext.refl _ | assumption | refine Ext.alloc ?_ _ | refine Ext.drew ?_ | refine Ext.drewN ?_ _ | refine Ext.setCell ?_ (by first | (simp; done) | (simp; omega) | omega) _ | refine Ext.trans ?_ (by assumption))), Lib.hid (RowNsp.setTo (Hrp.out.ext (hx2.trans (hx3.trans hx4))) rfl hpl _), Lib.hid (by first | (have e := Hin.out; rw [show max (nspAt m p).to x.to = x.to from by omega] at e; exact e) | (have e := Hin.out; rw [show max (nspAt m p).to x.to = (nspAt m p).to from by omega] at e; exact e))⟩
              · have T4 : ((nspAt m p).fr == x.fr) = false := by simpa using hfe
                have Hin := Lib.hid (Hs1.out _ ⟨p, Hpos.out, .inr ⟨fun t => hfe t.2.2, rfl⟩⟩)
                clear hs he hf hfe
                go_wp2_with fail
                (refine wp_region_onto prog_mixed (by kernel_rfl) ?_; (repeat (go_big_quiet_step ((fail)))); refine onto_end ?_; intro w2 hx2)
                have hbw2 : b < w2.heap.size := Nat.lt_of_lt_of_le hbr hx2.size
                replace c1 : w2.cell? ⟨b, off + j * 3, none⟩ = some (.string x.nm) := (hx2.cell (p := ⟨b, off + j * 3, none⟩) hbr).trans c1
                replace c2 : w2.cell? ⟨b, off + j * 3 + 1, none⟩ = some (.int .i64 x.fr) := (hx2.cell (p := ⟨b, off + j * 3 + 1, none⟩) hbr).trans c2
                replace c3 : w2.cell? ⟨b, off + j * 3 + 2, none⟩ = some (.int .i64 x.to) := (hx2.cell (p := ⟨b, off + j * 3 + 2, none⟩) hbr).trans c3
                have hgw2 : g < w2.heap.size := Nat.lt_of_lt_of_le hgr hx2.size
                replace d0 : w2.cell? ⟨g, p * 3, none⟩ = some (.string (nspAt m p).nm) := (hx2.cell (p := ⟨g, p * 3, none⟩) hgr).trans d0
                replace d1 : w2.cell? ⟨g, p * 3 + 1, none⟩ = some (.int .i64 (nspAt m p).fr) := (hx2.cell (p := ⟨g, p * 3 + 1, none⟩) hgr).trans d1
                replace d2 : w2.cell? ⟨g, p * 3 + 2, none⟩ = some (.int .i64 (nspAt m p).to) := (hx2.cell (p := ⟨g, p * 3 + 2, none⟩) hgr).trans d2
                replace f2 : w2.frozen? ⟨g, p * 3 + 2, none⟩ = false := (hx2.frozen (p := ⟨g, p * 3 + 2, none⟩) hgr).trans f2
                go_wp2_with fail
                (refine wp_region_onto prog_mixed (by kernel_rfl) ?_; (repeat (go_big_quiet_step ((fail)))); refine onto_end ?_; intro w3 hx3)
                have hbw3 : b < w3.heap.size := Nat.lt_of_lt_of_le hbw2 hx3.size
                replace c1 : w3.cell? ⟨b, off + j * 3, none⟩ = some (.string x.nm) := (hx3.cell (p := ⟨b, off + j * 3, none⟩) hbw2).trans c1
                replace c2 : w3.cell? ⟨b, off + j * 3 + 1, none⟩ = some (.int .i64 x.fr) := (hx3.cell (p := ⟨b, off + j * 3 + 1, none⟩) hbw2).trans c2
                replace c3 : w3.cell? ⟨b, off + j * 3 + 2, none⟩ = some (.int .i64 x.to) := (hx3.cell (p := ⟨b, off + j * 3 + 2, none⟩) hbw2).trans c3
                have hgw3 : g < w3.heap.size := Nat.lt_of_lt_of_le hgw2 hx3.size
                replace d0 : w3.cell? ⟨g, p * 3, none⟩ = some (.string (nspAt m p).nm) := (hx3.cell (p := ⟨g, p * 3, none⟩) hgw2).trans d0
                replace d1 : w3.cell? ⟨g, p * 3 + 1, none⟩ = some (.int .i64 (nspAt m p).fr) := (hx3.cell (p := ⟨g, p * 3 + 1, none⟩) hgw2).trans d1
                replace d2 : w3.cell? ⟨g, p * 3 + 2, none⟩ = some (.int .i64 (nspAt m p).to) := (hx3.cell (p := ⟨g, p * 3 + 2, none⟩) hgw2).trans d2
                replace f2 : w3.frozen? ⟨g, p * 3 + 2, none⟩ = false := (hx3.frozen (p := ⟨g, p * 3 + 2, none⟩) hgw2).trans f2
                go_wp2_with fail
                have Hpre := Lib.hid (fun (W : World) (hX : Ext w3 W) => show Row W 0 w3.heap.size 3 (.slice (some ⟨g, 0, none⟩) p cc) p (nspCell (m.take p)) from by
                  refine ⟨by unfold maxLen; omega, _, _, rfl, by omega, fun h0 => ?_⟩
                  obtain ⟨g', eg, _, hgr, hcell⟩ := (Hrp.out.ext (hx2.trans hx3)).cells (by omega)
                  injection eg with eg
                  injection eg with eg
                  subst eg
                  refine ⟨g, 0, rfl, Nat.zero_le _, hgr, fun k hk => ?_⟩
                  rw [Nat.zero_add, hX.cell (p := ⟨g, k, none⟩) hgr, (hcell k (by omega)).1]
                  unfold nspCell
                  rw [nspAt_take (by omega)])
                have Hsuf := Lib.hid (fun (W : World) (hX : Ext w3 W) (A : Option Addr) (hA : cc = p ∨ A = some ⟨g, p * 3, none⟩) => show Row W 0 w3.heap.size 3 (.slice A (m.length - p) (cc - p)) (m.length - p) (fun k => nspCell m (p * 3 + k)) from by
                  refine ⟨by unfold maxLen; omega, _, _, rfl, by omega, fun h0 => ?_⟩
                  obtain ⟨g', eg, _, hgr, hcell⟩ := (Hrp.out.ext (hx2.trans hx3)).cells (by omega)
                  injection eg with eg
                  injection eg with eg
                  subst eg
                  rcases hA with hA | hA
                  · omega
                  · refine ⟨g, p * 3, hA, Nat.zero_le _, hgr, fun k hk => ?_⟩
                    rw [hX.cell (p := ⟨g, p * 3 + k, none⟩) hgr, (hcell (p * 3 + k) (by omega)).1])
                have q4 : p ≤ m.length := by omega
                have q0 : (0 : Int) ≤ (p : Int) := by omega
                have q1 : (p : Int) ≤ (cc : Int) := by omega
                have q2 : (p : Int) ≤ (m.length : Int) := by omega
                have q3 : (m.length : Int) ≤ (cc : Int) := by omega
                have hxw3 : Ext w w3 := (by repeat (first | exact Ext.refl _ | assumption | refine Ext.alloc ?_ _ | refine Ext.drew ?_ | refine Ext.drewN ?_ _ | refine Ext.setCell ?_ (by first | (simp; done) | (simp; omega) | omega) _ | refine Ext.trans ?_ (by assumption)))
                have hz3 := hxw3.size
                have D1 := Lib.hid (fun (g : Nat) (W0 W : World) (h1 : w3.heap.size ≤ g) (h2 : W0.heap.size = g) (hX : Ext (W0.alloc (.cells #[] 88)) W) => show W.ownsRow w3.heap.size 88 3 (.slice (some ⟨g, 0, none⟩) 0 0) 0 [] from by
                  subst h2
                  exact row_ext (World.ownsRow_made W0 #[] 0 h1 (Nat.zero_le _) rfl) hX)
                have BX := Lib.hid (fun (g : Nat) (W0 W : World) (h2 : W0.heap.size = g) (hX : Ext (W0.alloc (.cells #[.string x.nm, .int .i64 x.fr, .int .i64 x.to] 88)) W) => show Boxed W g [.string x.nm, .int .i64 x.fr, .int .i64 x.to] from by
                  subst h2
                  exact (Boxed.new W0 [.string x.nm, .int .i64 x.fr, .int .i64 x.to] 88).ext hX)
                have BR := Lib.hid (fun (g : Nat) (W : World) (h : Boxed W g [.string x.nm, .int .i64 x.fr, .int .i64 x.to]) => (h.row rfl (fun i hi => by
                  have h3 : i = 0 ∨ i = 1 ∨ i = 2 := by omega
                  rcases h3 with rfl | rfl | rfl <;> rfl) : Row W 0 W.heap.size 3 (.slice (some ⟨g, 0, none⟩) 1 1) 1 (nspCell [x])))
                go_region_law (first
                  | (refine step_append_row rfl (.tmp 103) (.tmp 106) 24 rfl w3.heap.size 88 3 32 Tryz.underlying24 (by kernel_rfl) (by omega) (.slice (some ⟨w3.heap.size, 0, none⟩) 0 0) 0 p [] rfl (.inl (D1.out w3.heap.size w3 _ (Nat.le_refl _) rfl (by repeat (first | exact Ext.refl _ | assumption | refine Ext.alloc ?_ _ | refine Ext.drew ?_ | refine Ext.drewN ?_ _ | refine Ext.setCell ?_ (by first | (simp; done) | (simp; omega) | omega) _ | refine Ext.trans ?_ (by assumption))))) (.inl (D1.out w3.heap.size w3 _ (Nat.le_refl _) rfl (by repeat (first | exact Ext.refl _ | assumption | refine Ext.alloc ?_ _ | refine Ext.drew ?_ | refine Ext.drewN ?_ _ | refine Ext.setCell ?_ (by first | (simp; done) | (simp; omega) | omega) _ | refine Ext.trans ?_ (by assumption))))) 0 w3.heap.size _ (nspCell (m.take p)) rfl (Hpre.out _ (by repeat (first | exact Ext.refl _ | assumption | refine Ext.alloc ?_ _ | refine Ext.drew ?_ | refine Ext.drewN ?_ _ | refine Ext.setCell ?_ (by first | (simp; done) | (simp; omega) | omega) _ | refine Ext.trans ?_ (by assumption)))) (fun i _ => nspCell_one _ i) (by unfold maxLen; omega) (by omega) (by first | (simp; done) | (simp; omega)) ?_; intro v1 w5 hown1 hput1; have Hx1 := Lib.hid (hput1.ext (show Ext w3 _ from (by repeat (first | exact Ext.refl _ | assumption | refine Ext.alloc ?_ _ | refine Ext.drew ?_ | refine Ext.drewN ?_ _ | refine Ext.setCell ?_ (by first | (simp; done) | (simp; omega) | omega) _ | refine Ext.trans ?_ (by assumption)))) (Nat.le_refl _)); have hz1 := Hx1.out.size; have Ho1 := Lib.hid (show w5.ownsRow w3.heap.size 88 3 v1 p (cellsOf (p * 3) (nspCell (m.take p))) from by simpa using hown1); have Hp1 := Lib.hid (fun (gb : Nat) (cs : List Value) hB (hne : gb ≠ w3.heap.size) => box_put (g := gb) (cs := cs) hput1 rfl hB hne); have k1 := (Hx1.out.cell (p := ⟨b, off + j * 3, none⟩) hbw3).trans c1; have k2 := (Hx1.out.cell (p := ⟨b, off + j * 3 + 1, none⟩) hbw3).trans c2; have k3 := (Hx1.out.cell (p := ⟨b, off + j * 3 + 2, none⟩) hbw3).trans c3; clear hown1 hput1)
                  | (refine step_append_row rfl (.tmp 103) (.tmp 106) 24 rfl w3.heap.size 88 3 32 Tryz.underlying24 (by kernel_rfl) (by omega) (.slice (some ⟨w3.heap.size + 1, 0, none⟩) 0 0) 0 p [] rfl (.inl (D1.out (w3.heap.size + 1) (w3.alloc (.cells #[.string x.nm, .int .i64 x.fr, .int .i64 x.to] 88)) _ (Nat.le_succ _) (by simp) (by repeat (first | exact Ext.refl _ | assumption | refine Ext.alloc ?_ _ | refine Ext.drew ?_ | refine Ext.drewN ?_ _ | refine Ext.setCell ?_ (by first | (simp; done) | (simp; omega) | omega) _ | refine Ext.trans ?_ (by assumption))))) (.inl (D1.out (w3.heap.size + 1) (w3.alloc (.cells #[.string x.nm, .int .i64 x.fr, .int .i64 x.to] 88)) _ (Nat.le_succ _) (by simp) (by repeat (first | exact Ext.refl _ | assumption | refine Ext.alloc ?_ _ | refine Ext.drew ?_ | refine Ext.drewN ?_ _ | refine Ext.setCell ?_ (by first | (simp; done) | (simp; omega) | omega) _ | refine Ext.trans ?_ (by assumption))))) 0 w3.heap.size _ (nspCell (m.take p)) rfl (Hpre.out _ (by repeat (first | exact Ext.refl _ | assumption | refine Ext.alloc ?_ _ | refine Ext.drew ?_ | refine Ext.drewN ?_ _ | refine Ext.setCell ?_ (by first | (simp; done) | (simp; omega) | omega) _ | refine Ext.trans ?_ (by assumption)))) (fun i _ => nspCell_one _ i) (by unfold maxLen; omega) (by omega) (by first | (simp; done) | (simp; omega)) ?_; intro v1 w5 hown1 hput1; have Hx1 := Lib.hid (hput1.ext (show Ext w3 _ from (by repeat (first | exact Ext.refl _ | assumption | refine Ext.alloc ?_ _ | refine Ext.drew ?_ | refine Ext.drewN ?_ _ | refine Ext.setCell ?_ (by first | (simp; done) | (simp; omega) | omega) _ | refine Ext.trans ?_ (by assumption)))) (Nat.le_refl _)); have hz1 := Hx1.out.size; have Ho1 := Lib.hid (show w5.ownsRow w3.heap.size 88 3 v1 p (cellsOf (p * 3) (nspCell (m.take p))) from by simpa using hown1); have Hp1 := Lib.hid (fun (gb : Nat) (cs : List Value) hB (hne : gb ≠ w3.heap.size + 1) => box_put (g := gb) (cs := cs) hput1 rfl hB hne); have k1 := (Hx1.out.cell (p := ⟨b, off + j * 3, none⟩) hbw3).trans c1; have k2 := (Hx1.out.cell (p := ⟨b, off + j * 3 + 1, none⟩) hbw3).trans c2; have k3 := (Hx1.out.cell (p := ⟨b, off + j * 3 + 2, none⟩) hbw3).trans c3; clear hown1 hput1)
                  | (refine step_append_row rfl (.tmp 107) (.tmp 112) 24 rfl w3.heap.size 88 3 32 Tryz.underlying24 (by kernel_rfl) (by omega) _ p 1 _ rfl (.inl (row_ext Ho1.out (by repeat (first | exact Ext.refl _ | assumption | refine Ext.alloc ?_ _ | refine Ext.drew ?_ | refine Ext.drewN ?_ _ | refine Ext.setCell ?_ (by first | (simp; done) | (simp; omega) | omega) _ | refine Ext.trans ?_ (by assumption))))) (.inr (by omega)) 0 _ _ (nspCell [x]) rfl (BR.out _ _ (by
                      first
                        | (refine BX.out _ w5 _ rfl ?_ <;> ((repeat (first | exact Ext.refl _ | assumption | refine Ext.alloc ?_ _ | refine Ext.drew ?_ | refine Ext.drewN ?_ _ | refine Ext.setCell ?_ (by first | (simp; done) | (simp; omega) | omega) _ | refine Ext.trans ?_ (by assumption))); done))
                        | (refine BX.out _ w5.drew _ rfl ?_ <;> ((repeat (first | exact Ext.refl _ | assumption | refine Ext.alloc ?_ _ | refine Ext.drew ?_ | refine Ext.drewN ?_ _ | refine Ext.setCell ?_ (by first | (simp; done) | (simp; omega) | omega) _ | refine Ext.trans ?_ (by assumption))); done))
                        | (refine (Hp1.out _ _ (BX.out _ (w3.alloc (.cells #[] 88)) _ ?_ ?_) ?_).ext ?_ <;> first | ((repeat (first | exact Ext.refl _ | assumption | refine Ext.alloc ?_ _ | refine Ext.drew ?_ | refine Ext.drewN ?_ _ | refine Ext.setCell ?_ (by first | (simp; done) | (simp; omega) | omega) _ | refine Ext.trans ?_ (by assumption))); done) | (simp; done) | (simp; omega))
                        | (refine (Hp1.out _ _ (BX.out _ w3 _ rfl ?_) ?_).ext ?_ <;> first | ((repeat (first | exact Ext.refl _ | assumption | refine Ext.alloc ?_ _ | refine Ext.drew ?_ | refine Ext.drewN ?_ _ | refine Ext.setCell ?_ (by first | (simp; done) | (simp; omega) | omega) _ | refine Ext.trans ?_ (by assumption))); done) | (simp; done) | omega))) (fun i _ => nspCell_one _ i) (by unfold maxLen; omega) (by omega) (by first | exact hz1 | (simp; done) | (simp; omega)) ?_; intro v2 w6 hown2 hput2; have Hx2 := Lib.hid (hput2.ext (show Ext w3 _ from Hx1.out.trans (by repeat (first | exact Ext.refl _ | assumption | refine Ext.alloc ?_ _ | refine Ext.drew ?_ | refine Ext.drewN ?_ _ | refine Ext.setCell ?_ (by first | (simp; done) | (simp; omega) | omega) _ | refine Ext.trans ?_ (by assumption)))) (Nat.le_refl _)); have hz2 := Hx2.out.size; have Ho2 := Lib.hid hown2; clear hown2 hput2)
                  | (refine step_append_row rfl (.tmp 113) (.tmp 116) 24 rfl w3.heap.size 88 3 32 Tryz.underlying24 (by kernel_rfl) (by omega) _ (p + 1) (m.length - p) _ rfl (.inl (row_ext Ho2.out (by repeat (first | exact Ext.refl _ | assumption | refine Ext.alloc ?_ _ | refine Ext.drew ?_ | refine Ext.drewN ?_ _ | refine Ext.setCell ?_ (by first | (simp; done) | (simp; omega) | omega) _ | refine Ext.trans ?_ (by assumption))))) (.inl (row_ext Ho2.out (by repeat (first | exact Ext.refl _ | assumption | refine Ext.alloc ?_ _ | refine Ext.drew ?_ | refine Ext.drewN ?_ _ | refine Ext.setCell ?_ (by first | (simp; done) | (simp; omega) | omega) _ | refine Ext.trans ?_ (by assumption))))) 0 w3.heap.size _ (fun k => nspCell m (p * 3 + k)) rfl (Hsuf.out _ (Hx2.out.trans (by repeat (first | exact Ext.refl _ | assumption | refine Ext.alloc ?_ _ | refine Ext.drew ?_ | refine Ext.drewN ?_ _ | refine Ext.setCell ?_ (by first | (simp; done) | (simp; omega) | omega) _ | refine Ext.trans ?_ (by assumption)))) _ (by by_cases e : cc = p <;> simp [e])) (fun i _ => nspCell_one _ _) (by unfold maxLen; omega) (by omega) (by first | exact hz2 | (simp; omega)) ?_; intro v3 w7 hown3 hput3; have Hx3 := Lib.hid (hput3.ext (Hx2.out.trans (show Ext w6 _ from (by repeat (first | exact Ext.refl _ | assumption | refine Ext.alloc ?_ _ | refine Ext.drew ?_ | refine Ext.drewN ?_ _ | refine Ext.setCell ?_ (by first | (simp; done) | (simp; omega) | omega) _ | refine Ext.trans ?_ (by assumption))))) (Nat.le_refl _)); have Ho3 := Lib.hid (ins_row q4 hown3); clear hown3 hput3))
                all_goals go_wp2_with fail
                all_goals
                  go_roundg (l.length - (j + 1))
                  case measure => omega
                  case rel =>
                    obtain ⟨g', c', rfl, hg', hc'⟩ := Ho3.out.shape (by rw [insP_len q4]; omega)
                    exact ⟨j + 1, insP m x p, g', c', by omega, by go_num, rfl, Nat.le_trans hz3 hg', hc', hxw3.trans (Hx3.out.trans (by repeat (first | exact Ext.refl _ | assumption | refine Ext.alloc ?_ _ | refine Ext.drew ?_ | refine Ext.drewN ?_ _ | refine Ext.setCell ?_ (by first | (simp; done) | (simp; omega) | omega) _ | refine Ext.trans ?_ (by assumption)))), Lib.hid (ownsRow_mono (Ho3.out.ext (by repeat (first | exact Ext.refl _ | assumption | refine Ext.alloc ?_ _ | refine Ext.drew ?_ | refine Ext.drewN ?_ _ | refine Ext.setCell ?_ (by first | (simp; done) | (simp; omega) | omega) _ | refine Ext.trans ?_ (by assumption)))) hz3), Hin⟩
          · have T2 := str_ne he
            have Hk := Lib.hid (show ¬ MkLt (nspAt m p) x from fun hh => by
              rcases hh with hh | ⟨e, _⟩
              · exact hs hh
              · exact he e)
            have Hpos := Lib.hid (show posM m x p from ⟨by omega, Hl.out, fun _ => Hk.out⟩)
            have Hin := Lib.hid (Hs1.out _ ⟨p, Hpos.out, .inr ⟨fun t => he t.2.1, rfl⟩⟩)
            clear hs he
            go_wp2_with fail
            (refine wp_region_onto prog_mixed (by kernel_rfl) ?_; (repeat (go_big_quiet_step ((fail)))); refine onto_end ?_; intro w2 hx2)
            have hbw2 : b < w2.heap.size := Nat.lt_of_lt_of_le hbr hx2.size
            replace c1 : w2.cell? ⟨b, off + j * 3, none⟩ = some (.string x.nm) := (hx2.cell (p := ⟨b, off + j * 3, none⟩) hbr).trans c1
            replace c2 : w2.cell? ⟨b, off + j * 3 + 1, none⟩ = some (.int .i64 x.fr) := (hx2.cell (p := ⟨b, off + j * 3 + 1, none⟩) hbr).trans c2
            replace c3 : w2.cell? ⟨b, off + j * 3 + 2, none⟩ = some (.int .i64 x.to) := (hx2.cell (p := ⟨b, off + j * 3 + 2, none⟩) hbr).trans c3
            have hgw2 : g < w2.heap.size := Nat.lt_of_lt_of_le hgr hx2.size
            replace d0 : w2.cell? ⟨g, p * 3, none⟩ = some (.string (nspAt m p).nm) := (hx2.cell (p := ⟨g, p * 3, none⟩) hgr).trans d0
            replace d1 : w2.cell? ⟨g, p * 3 + 1, none⟩ = some (.int .i64 (nspAt m p).fr) := (hx2.cell (p := ⟨g, p * 3 + 1, none⟩) hgr).trans d1
            replace d2 : w2.cell? ⟨g, p * 3 + 2, none⟩ = some (.int .i64 (nspAt m p).to) := (hx2.cell (p := ⟨g, p * 3 + 2, none⟩) hgr).trans d2
            replace f2 : w2.frozen? ⟨g, p * 3 + 2, none⟩ = false := (hx2.frozen (p := ⟨g, p * 3 + 2, none⟩) hgr).trans f2
            go_wp2_with fail
            (refine wp_region_onto prog_mixed (by kernel_rfl) ?_; (repeat (go_big_quiet_step ((fail)))); refine onto_end ?_; intro w3 hx3)
            have hbw3 : b < w3.heap.size := Nat.lt_of_lt_of_le hbw2 hx3.size
            replace c1 : w3.cell? ⟨b, off + j * 3, none⟩ = some (.string x.nm) := (hx3.cell (p := ⟨b, off + j * 3, none⟩) hbw2).trans c1
            replace c2 : w3.cell? ⟨b, off + j * 3 + 1, none⟩ = some (.int .i64 x.fr) := (hx3.cell (p := ⟨b, off + j * 3 + 1, none⟩) hbw2).trans c2
            replace c3 : w3.cell? ⟨b, off + j * 3 + 2, none⟩ = some (.int .i64 x.to) := (hx3.cell (p := ⟨b, off + j * 3 + 2, none⟩) hbw2).trans c3
            have hgw3 : g < w3.heap.size := Nat.lt_of_lt_of_le hgw2 hx3.size
            replace d0 : w3.cell? ⟨g, p * 3, none⟩ = some (.string (nspAt m p).nm) := (hx3.cell (p := ⟨g, p * 3, none⟩) hgw2).trans d0
            replace d1 : w3.cell? ⟨g, p * 3 + 1, none⟩ = some (.int .i64 (nspAt m p).fr) := (hx3.cell (p := ⟨g, p * 3 + 1, none⟩) hgw2).trans d1
            replace d2 : w3.cell? ⟨g, p * 3 + 2, none⟩ = some (.int .i64 (nspAt m p).to) := (hx3.cell (p := ⟨g, p * 3 + 2, none⟩) hgw2).trans d2
            replace f2 : w3.frozen? ⟨g, p * 3 + 2, none⟩ = false := (hx3.frozen (p := ⟨g, p * 3 + 2, none⟩) hgw2).trans f2
            go_wp2_with fail
            have Hpre := Lib.hid (fun (W : World) (hX : Ext w3 W) => show Row W 0 w3.heap.size 3 (.slice (some ⟨g, 0, none⟩) p cc) p (nspCell (m.take p)) from by
              refine ⟨by unfold maxLen; omega, _, _, rfl, by omega, fun h0 => ?_⟩
              obtain ⟨g', eg, _, hgr, hcell⟩ := (Hrp.out.ext (hx2.trans hx3)).cells (by omega)
              injection eg with eg
              injection eg with eg
              subst eg
              refine ⟨g, 0, rfl, Nat.zero_le _, hgr, fun k hk => ?_⟩
              rw [Nat.zero_add, hX.cell (p := ⟨g, k, none⟩) hgr, (hcell k (by omega)).1]
              unfold nspCell
              rw [nspAt_take (by omega)])
            have Hsuf := Lib.hid (fun (W : World) (hX : Ext w3 W) (A : Option Addr) (hA : cc = p ∨ A = some ⟨g, p * 3, none⟩) => show Row W 0 w3.heap.size 3 (.slice A (m.length - p) (cc - p)) (m.length - p) (fun k => nspCell m (p * 3 + k)) from by
              refine ⟨by unfold maxLen; omega, _, _, rfl, by omega, fun h0 => ?_⟩
              obtain ⟨g', eg, _, hgr, hcell⟩ := (Hrp.out.ext (hx2.trans hx3)).cells (by omega)
              injection eg with eg
              injection eg with eg
              subst eg
              rcases hA with hA | hA
              · omega
              · refine ⟨g, p * 3, hA, Nat.zero_le _, hgr, fun k hk => ?_⟩
                rw [hX.cell (p := ⟨g, p * 3 + k, none⟩) hgr, (hcell (p * 3 + k) (by omega)).1])
            have q4 : p ≤ m.length := by omega
            have q0 : (0 : Int) ≤ (p : Int) := by omega
            have q1 : (p : Int) ≤ (cc : Int) := by omega
            have q2 : (p : Int) ≤ (m.length : Int) := by omega
            have q3 : (m.length : Int) ≤ (cc : Int) := by omega
            have hxw3 : Ext w w3 := (by repeat (first | exact Ext.refl _ | assumption | refine Ext.alloc ?_ _ | refine Ext.drew ?_ | refine Ext.drewN ?_ _ | refine Ext.setCell ?_ (by first | (simp; done) | (simp; omega) | omega) _ | refine Ext.trans ?_ (by assumption)))
            have hz3 := hxw3.size
            have D1 := Lib.hid (fun (g : Nat) (W0 W : World) (h1 : w3.heap.size ≤ g) (h2 : W0.heap.size = g) (hX : Ext (W0.alloc (.cells #[] 88)) W) => show W.ownsRow w3.heap.size 88 3 (.slice (some ⟨g, 0, none⟩) 0 0) 0 [] from by
              subst h2
              exact row_ext (World.ownsRow_made W0 #[] 0 h1 (Nat.zero_le _) rfl) hX)
            have BX := Lib.hid (fun (g : Nat) (W0 W : World) (h2 : W0.heap.size = g) (hX : Ext (W0.alloc (.cells #[.string x.nm, .int .i64 x.fr, .int .i64 x.to] 88)) W) => show Boxed W g [.string x.nm, .int .i64 x.fr, .int .i64 x.to] from by
              subst h2
              exact (Boxed.new W0 [.string x.nm, .int .i64 x.fr, .int .i64 x.to] 88).ext hX)
            have BR := Lib.hid (fun (g : Nat) (W : World) (h : Boxed W g [.string x.nm, .int .i64 x.fr, .int .i64 x.to]) => (h.row rfl (fun i hi => by
              have h3 : i = 0 ∨ i = 1 ∨ i = 2 := by omega
              rcases h3 with rfl | rfl | rfl <;> rfl) : Row W 0 W.heap.size 3 (.slice (some ⟨g, 0, none⟩) 1 1) 1 (nspCell [x])))
            go_region_law (first
              | (refine step_append_row rfl (.tmp 103) (.tmp 106) 24 rfl w3.heap.size 88 3 32 Tryz.underlying24 (by kernel_rfl) (by omega) (.slice (some ⟨w3.heap.size, 0, none⟩) 0 0) 0 p [] rfl (.inl (D1.out w3.heap.size w3 _ (Nat.le_refl _) rfl (by repeat (first | exact Ext.refl _ | assumption | refine Ext.alloc ?_ _ | refine Ext.drew ?_ | refine Ext.drewN ?_ _ | refine Ext.setCell ?_ (by first | (simp; done) | (simp; omega) | omega) _ | refine Ext.trans ?_ (by assumption))))) (.inl (D1.out w3.heap.size w3 _ (Nat.le_refl _) rfl (by repeat (first | exact Ext.refl _ | assumption | refine Ext.alloc ?_ _ | refine Ext.drew ?_ | refine Ext.drewN ?_ _ | refine Ext.setCell ?_ (by first | (simp; done) | (simp; omega) | omega) _ | refine Ext.trans ?_ (by assumption))))) 0 w3.heap.size _ (nspCell (m.take p)) rfl (Hpre.out _ (by repeat (first | exact Ext.refl _ | assumption | refine Ext.alloc ?_ _ | refine Ext.drew ?_ | refine Ext.drewN ?_ _ | refine Ext.setCell ?_ (by first | (simp; done) | (simp; omega) | omega) _ | refine Ext.trans ?_ (by assumption)))) (fun i _ => nspCell_one _ i) (by unfold maxLen; omega) (by omega) (by first | (simp; done) | (simp; omega)) ?_; intro v1 w5 hown1 hput1; have Hx1 := Lib.hid (hput1.ext (show Ext w3 _ from (by repeat (first | exact Ext.refl _ | assumption | refine Ext.alloc ?_ _ | refine Ext.drew ?_ | refine Ext.drewN ?_ _ | refine Ext.setCell ?_ (by first | (simp; done) | (simp; omega) | omega) _ | refine Ext.trans ?_ (by assumption)))) (Nat.le_refl _)); have hz1 := Hx1.out.size; have Ho1 := Lib.hid (show w5.ownsRow w3.heap.size 88 3 v1 p (cellsOf (p * 3) (nspCell (m.take p))) from by simpa using hown1); have Hp1 := Lib.hid (fun (gb : Nat) (cs : List Value) hB (hne : gb ≠ w3.heap.size) => box_put (g := gb) (cs := cs) hput1 rfl hB hne); have k1 := (Hx1.out.cell (p := ⟨b, off + j * 3, none⟩) hbw3).trans c1; have k2 := (Hx1.out.cell (p := ⟨b, off + j * 3 + 1, none⟩) hbw3).trans c2; have k3 := (Hx1.out.cell (p := ⟨b, off + j * 3 + 2, none⟩) hbw3).trans c3; clear hown1 hput1)
              | (refine step_append_row rfl (.tmp 103) (.tmp 106) 24 rfl w3.heap.size 88 3 32 Tryz.underlying24 (by kernel_rfl) (by omega) (.slice (some ⟨w3.heap.size + 1, 0, none⟩) 0 0) 0 p [] rfl (.inl (D1.out (w3.heap.size + 1) (w3.alloc (.cells #[.string x.nm, .int .i64 x.fr, .int .i64 x.to] 88)) _ (Nat.le_succ _) (by simp) (by repeat (first | exact Ext.refl _ | assumption | refine Ext.alloc ?_ _ | refine Ext.drew ?_ | refine Ext.drewN ?_ _ | refine Ext.setCell ?_ (by first | (simp; done) | (simp; omega) | omega) _ | refine Ext.trans ?_ (by assumption))))) (.inl (D1.out (w3.heap.size + 1) (w3.alloc (.cells #[.string x.nm, .int .i64 x.fr, .int .i64 x.to] 88)) _ (Nat.le_succ _) (by simp) (by repeat (first | exact Ext.refl _ | assumption | refine Ext.alloc ?_ _ | refine Ext.drew ?_ | refine Ext.drewN ?_ _ | refine Ext.setCell ?_ (by first | (simp; done) | (simp; omega) | omega) _ | refine Ext.trans ?_ (by assumption))))) 0 w3.heap.size _ (nspCell (m.take p)) rfl (Hpre.out _ (by repeat (first | exact Ext.refl _ | assumption | refine Ext.alloc ?_ _ | refine Ext.drew ?_ | refine Ext.drewN ?_ _ | refine Ext.setCell ?_ (by first | (simp; done) | (simp; omega) | omega) _ | refine Ext.trans ?_ (by assumption)))) (fun i _ => nspCell_one _ i) (by unfold maxLen; omega) (by omega) (by first | (simp; done) | (simp; omega)) ?_; intro v1 w5 hown1 hput1; have Hx1 := Lib.hid (hput1.ext (show Ext w3 _ from (by repeat (first | exact Ext.refl _ | assumption | refine Ext.alloc ?_ _ | refine Ext.drew ?_ | refine Ext.drewN ?_ _ | refine Ext.setCell ?_ (by first | (simp; done) | (simp; omega) | omega) _ | refine Ext.trans ?_ (by assumption)))) (Nat.le_refl _)); have hz1 := Hx1.out.size; have Ho1 := Lib.hid (show w5.ownsRow w3.heap.size 88 3 v1 p (cellsOf (p * 3) (nspCell (m.take p))) from by simpa using hown1); have Hp1 := Lib.hid (fun (gb : Nat) (cs : List Value) hB (hne : gb ≠ w3.heap.size + 1) => box_put (g := gb) (cs := cs) hput1 rfl hB hne); have k1 := (Hx1.out.cell (p := ⟨b, off + j * 3, none⟩) hbw3).trans c1; have k2 := (Hx1.out.cell (p := ⟨b, off + j * 3 + 1, none⟩) hbw3).trans c2; have k3 := (Hx1.out.cell (p := ⟨b, off + j * 3 + 2, none⟩) hbw3).trans c3; clear hown1 hput1)
              | (refine step_append_row rfl (.tmp 107) (.tmp 112) 24 rfl w3.heap.size 88 3 32 Tryz.underlying24 (by kernel_rfl) (by omega) _ p 1 _ rfl (.inl (row_ext Ho1.out (by repeat (first | exact Ext.refl _ | assumption | refine Ext.alloc ?_ _ | refine Ext.drew ?_ | refine Ext.drewN ?_ _ | refine Ext.setCell ?_ (by first | (simp; done) | (simp; omega) | omega) _ | refine Ext.trans ?_ (by assumption))))) (.inr (by omega)) 0 _ _ (nspCell [x]) rfl (BR.out _ _ (by
                  first
                    | (refine BX.out _ w5 _ rfl ?_ <;> ((repeat (first | exact Ext.refl _ | assumption | refine Ext.alloc ?_ _ | refine Ext.drew ?_ | refine Ext.drewN ?_ _ | refine Ext.setCell ?_ (by first | (simp; done) | (simp; omega) | omega) _ | refine Ext.trans ?_ (by assumption))); done))
                    | (refine BX.out _ w5.drew _ rfl ?_ <;> ((repeat (first | exact Ext.refl _ | assumption | refine Ext.alloc ?_ _ | refine Ext.drew ?_ | refine Ext.drewN ?_ _ | refine Ext.setCell ?_ (by first | (simp; done) | (simp; omega) | omega) _ | refine Ext.trans ?_ (by assumption))); done))
                    | (refine (Hp1.out _ _ (BX.out _ (w3.alloc (.cells #[] 88)) _ ?_ ?_) ?_).ext ?_ <;> first | ((repeat (first | exact Ext.refl _ | assumption | refine Ext.alloc ?_ _ | refine Ext.drew ?_ | refine Ext.drewN ?_ _ | refine Ext.setCell ?_ (by first | (simp; done) | (simp; omega) | omega) _ | refine Ext.trans ?_ (by assumption))); done) | (simp; done) | (simp; omega))
                    | (refine (Hp1.out _ _ (BX.out _ w3 _ rfl ?_) ?_).ext ?_ <;> first | ((repeat (first | exact Ext.refl _ | assumption | refine Ext.alloc ?_ _ | refine Ext.drew ?_ | refine Ext.drewN ?_ _ | refine Ext.setCell ?_ (by first | (simp; done) | (simp; omega) | omega) _ | refine Ext.trans ?_ (by assumption))); done) | (simp; done) | omega))) (fun i _ => nspCell_one _ i) (by unfold maxLen; omega) (by omega) (by first | exact hz1 | (simp; done) | (simp; omega)) ?_; intro v2 w6 hown2 hput2; have Hx2 := Lib.hid (hput2.ext (show Ext w3 _ from Hx1.out.trans (by repeat (first | exact Ext.refl _ | assumption | refine Ext.alloc ?_ _ | refine Ext.drew ?_ | refine Ext.drewN ?_ _ | refine Ext.setCell ?_ (by first | (simp; done) | (simp; omega) | omega) _ | refine Ext.trans ?_ (by assumption)))) (Nat.le_refl _)); have hz2 := Hx2.out.size; have Ho2 := Lib.hid hown2; clear hown2 hput2)
              | (refine step_append_row rfl (.tmp 113) (.tmp 116) 24 rfl w3.heap.size 88 3 32 Tryz.underlying24 (by kernel_rfl) (by omega) _ (p + 1) (m.length - p) _ rfl (.inl (row_ext Ho2.out (by repeat (first | exact Ext.refl _ | assumption | refine Ext.alloc ?_ _ | refine Ext.drew ?_ | refine Ext.drewN ?_ _ | refine Ext.setCell ?_ (by first | (simp; done) | (simp; omega) | omega) _ | refine Ext.trans ?_ (by assumption))))) (.inl (row_ext Ho2.out (by repeat (first | exact Ext.refl _ | assumption | refine Ext.alloc ?_ _ | refine Ext.drew ?_ | refine Ext.drewN ?_ _ | refine Ext.setCell ?_ (by first | (simp; done) | (simp; omega) | omega) _ | refine Ext.trans ?_ (by assumption))))) 0 w3.heap.size _ (fun k => nspCell m (p * 3 + k)) rfl (Hsuf.out _ (Hx2.out.trans (by repeat (first | exact Ext.refl _ | assumption | refine Ext.alloc ?_ _ | refine Ext.drew ?_ | refine Ext.drewN ?_ _ | refine Ext.setCell ?_ (by first | (simp; done) | (simp; omega) | omega) _ | refine Ext.trans ?_ (by assumption)))) _ (by by_cases e : cc = p <;> simp [e])) (fun i _ => nspCell_one _ _) (by unfold maxLen; omega) (by omega) (by first | exact hz2 | (simp; omega)) ?_; intro v3 w7 hown3 hput3; have Hx3 := Lib.hid (hput3.ext (Hx2.out.trans (show Ext w6 _ from (by repeat (first | exact Ext.refl _ | assumption | refine Ext.alloc ?_ _ | refine Ext.drew ?_ | refine Ext.drewN ?_ _ | refine Ext.setCell ?_ (by first | (simp; done) | (simp; omega) | omega) _ | refine Ext.trans ?_ (by assumption))))) (Nat.le_refl _)); have Ho3 := Lib.hid (ins_row q4 hown3); clear hown3 hput3))
            all_goals go_wp2_with fail
            all_goals
              go_roundg (l.length - (j + 1))
              case measure => omega
              case rel =>
                obtain ⟨g', c', rfl, hg', hc'⟩ := Ho3.out.shape (by rw [insP_len q4]; omega)
                exact ⟨j + 1, insP m x p, g', c', by omega, by go_num, rfl, Nat.le_trans hz3 hg', hc', hxw3.trans (Hx3.out.trans (by repeat (first | exact Ext.refl _ | assumption | refine Ext.alloc ?_ _ | refine Ext.drew ?_ | refine Ext.drewN ?_ _ | refine Ext.setCell ?_ (by first | (simp; done) | (simp; omega) | omega) _ | refine Ext.trans ?_ (by assumption)))), Lib.hid (ownsRow_mono (Ho3.out.ext (by repeat (first | exact Ext.refl _ | assumption | refine Ext.alloc ?_ _ | refine Ext.drew ?_ | refine Ext.drewN ?_ _ | refine Ext.setCell ?_ (by first | (simp; done) | (simp; omega) | omega) _ | refine Ext.trans ?_ (by assumption)))) hz3), Hin⟩
        · have hpi : ¬ (p : Int) < (m.length : Int) := by omega
          have Hpos := Lib.hid (show posM m x p from ⟨by omega, Hl.out, fun h => absurd h hpl⟩)
          have Hin := Lib.hid (Hs1.out _ ⟨p, Hpos.out, .inr ⟨fun t => hpl t.1, rfl⟩⟩)
          go_wp2_with fail
          (refine wp_region_onto prog_mixed (by kernel_rfl) ?_; (repeat (go_big_quiet_step ((fail)))); refine onto_end ?_; intro w2 hx2)
          have hbw2 : b < w2.heap.size := Nat.lt_of_lt_of_le hbr hx2.size
          replace c1 : w2.cell? ⟨b, off + j * 3, none⟩ = some (.string x.nm) := (hx2.cell (p := ⟨b, off + j * 3, none⟩) hbr).trans c1
          replace c2 : w2.cell? ⟨b, off + j * 3 + 1, none⟩ = some (.int .i64 x.fr) := (hx2.cell (p := ⟨b, off + j * 3 + 1, none⟩) hbr).trans c2
          replace c3 : w2.cell? ⟨b, off + j * 3 + 2, none⟩ = some (.int .i64 x.to) := (hx2.cell (p := ⟨b, off + j * 3 + 2, none⟩) hbr).trans c3
          go_wp2_with fail
          (refine wp_region_onto prog_mixed (by kernel_rfl) ?_; (repeat (go_big_quiet_step ((fail)))); refine onto_end ?_; intro w3 hx3)
          have hbw3 : b < w3.heap.size := Nat.lt_of_lt_of_le hbw2 hx3.size
          replace c1 : w3.cell? ⟨b, off + j * 3, none⟩ = some (.string x.nm) := (hx3.cell (p := ⟨b, off + j * 3, none⟩) hbw2).trans c1
          replace c2 : w3.cell? ⟨b, off + j * 3 + 1, none⟩ = some (.int .i64 x.fr) := (hx3.cell (p := ⟨b, off + j * 3 + 1, none⟩) hbw2).trans c2
          replace c3 : w3.cell? ⟨b, off + j * 3 + 2, none⟩ = some (.int .i64 x.to) := (hx3.cell (p := ⟨b, off + j * 3 + 2, none⟩) hbw2).trans c3
          go_wp2_with fail
          have Hpre := Lib.hid (fun (W : World) (hX : Ext w3 W) => show Row W 0 w3.heap.size 3 (.slice (some ⟨g, 0, none⟩) p cc) p (nspCell (m.take p)) from by
            refine ⟨by unfold maxLen; omega, _, _, rfl, by omega, fun h0 => ?_⟩
            obtain ⟨g', eg, _, hgr, hcell⟩ := (Hrp.out.ext (hx2.trans hx3)).cells (by omega)
            injection eg with eg
            injection eg with eg
            subst eg
            refine ⟨g, 0, rfl, Nat.zero_le _, hgr, fun k hk => ?_⟩
            rw [Nat.zero_add, hX.cell (p := ⟨g, k, none⟩) hgr, (hcell k (by omega)).1]
            unfold nspCell
            rw [nspAt_take (by omega)])
          have Hsuf := Lib.hid (fun (W : World) (hX : Ext w3 W) (A : Option Addr) (hA : cc = p ∨ A = some ⟨g, p * 3, none⟩) => show Row W 0 w3.heap.size 3 (.slice A (m.length - p) (cc - p)) (m.length - p) (fun k => nspCell m (p * 3 + k)) from by
            refine ⟨by unfold maxLen; omega, _, _, rfl, by omega, fun h0 => ?_⟩
            obtain ⟨g', eg, _, hgr, hcell⟩ := (Hrp.out.ext (hx2.trans hx3)).cells (by omega)
            injection eg with eg
            injection eg with eg
            subst eg
            rcases hA with hA | hA
            · omega
            · refine ⟨g, p * 3, hA, Nat.zero_le _, hgr, fun k hk => ?_⟩
              rw [hX.cell (p := ⟨g, p * 3 + k, none⟩) hgr, (hcell (p * 3 + k) (by omega)).1])
          have q4 : p ≤ m.length := by omega
          have q0 : (0 : Int) ≤ (p : Int) := by omega
          have q1 : (p : Int) ≤ (cc : Int) := by omega
          have q2 : (p : Int) ≤ (m.length : Int) := by omega
          have q3 : (m.length : Int) ≤ (cc : Int) := by omega
          have hxw3 : Ext w w3 := (by repeat (first | exact Ext.refl _ | assumption | refine Ext.alloc ?_ _ | refine Ext.drew ?_ | refine Ext.drewN ?_ _ | refine Ext.setCell ?_ (by first | (simp; done) | (simp; omega) | omega) _ | refine Ext.trans ?_ (by assumption)))
          have hz3 := hxw3.size
          have D1 := Lib.hid (fun (g : Nat) (W0 W : World) (h1 : w3.heap.size ≤ g) (h2 : W0.heap.size = g) (hX : Ext (W0.alloc (.cells #[] 88)) W) => show W.ownsRow w3.heap.size 88 3 (.slice (some ⟨g, 0, none⟩) 0 0) 0 [] from by
            subst h2
            exact row_ext (World.ownsRow_made W0 #[] 0 h1 (Nat.zero_le _) rfl) hX)
          have BX := Lib.hid (fun (g : Nat) (W0 W : World) (h2 : W0.heap.size = g) (hX : Ext (W0.alloc (.cells #[.string x.nm, .int .i64 x.fr, .int .i64 x.to] 88)) W) => show Boxed W g [.string x.nm, .int .i64 x.fr, .int .i64 x.to] from by
            subst h2
            exact (Boxed.new W0 [.string x.nm, .int .i64 x.fr, .int .i64 x.to] 88).ext hX)
          have BR := Lib.hid (fun (g : Nat) (W : World) (h : Boxed W g [.string x.nm, .int .i64 x.fr, .int .i64 x.to]) => (h.row rfl (fun i hi => by
            have h3 : i = 0 ∨ i = 1 ∨ i = 2 := by omega
            rcases h3 with rfl | rfl | rfl <;> rfl) : Row W 0 W.heap.size 3 (.slice (some ⟨g, 0, none⟩) 1 1) 1 (nspCell [x])))
          go_region_law (first
            | (refine step_append_row rfl (.tmp 103) (.tmp 106) 24 rfl w3.heap.size 88 3 32 Tryz.underlying24 (by kernel_rfl) (by omega) (.slice (some ⟨w3.heap.size, 0, none⟩) 0 0) 0 p [] rfl (.inl (D1.out w3.heap.size w3 _ (Nat.le_refl _) rfl (by repeat (first | exact Ext.refl _ | assumption | refine Ext.alloc ?_ _ | refine Ext.drew ?_ | refine Ext.drewN ?_ _ | refine Ext.setCell ?_ (by first | (simp; done) | (simp; omega) | omega) _ | refine Ext.trans ?_ (by assumption))))) (.inl (D1.out w3.heap.size w3 _ (Nat.le_refl _) rfl (by repeat (first | exact Ext.refl _ | assumption | refine Ext.alloc ?_ _ | refine Ext.drew ?_ | refine Ext.drewN ?_ _ | refine Ext.setCell ?_ (by first | (simp; done) | (simp; omega) | omega) _ | refine Ext.trans ?_ (by assumption))))) 0 w3.heap.size _ (nspCell (m.take p)) rfl (Hpre.out _ (by repeat (first | exact Ext.refl _ | assumption | refine Ext.alloc ?_ _ | refine Ext.drew ?_ | refine Ext.drewN ?_ _ | refine Ext.setCell ?_ (by first | (simp; done) | (simp; omega) | omega) _ | refine Ext.trans ?_ (by assumption)))) (fun i _ => nspCell_one _ i) (by unfold maxLen; omega) (by omega) (by first | (simp; done) | (simp; omega)) ?_; intro v1 w5 hown1 hput1; have Hx1 := Lib.hid (hput1.ext (show Ext w3 _ from (by repeat (first | exact Ext.refl _ | assumption | refine Ext.alloc ?_ _ | refine Ext.drew ?_ | refine Ext.drewN ?_ _ | refine Ext.setCell ?_ (by first | (simp; done) | (simp; omega) | omega) _ | refine Ext.trans ?_ (by assumption)))) (Nat.le_refl _)); have hz1 := Hx1.out.size; have Ho1 := Lib.hid (show w5.ownsRow w3.heap.size 88 3 v1 p (cellsOf (p * 3) (nspCell (m.take p))) from by simpa using hown1); have Hp1 := Lib.hid (fun (gb : Nat) (cs : List Value) hB (hne : gb ≠ w3.heap.size) => box_put (g := gb) (cs := cs) hput1 rfl hB hne); have k1 := (Hx1.out.cell (p := ⟨b, off + j * 3, none⟩) hbw3).trans c1; have k2 := (Hx1.out.cell (p := ⟨b, off + j * 3 + 1, none⟩) hbw3).trans c2; have k3 := (Hx1.out.cell (p := ⟨b, off + j * 3 + 2, none⟩) hbw3).trans c3; clear hown1 hput1)
            | (refine step_append_row rfl (.tmp 103) (.tmp 106) 24 rfl w3.heap.size 88 3 32 Tryz.underlying24 (by kernel_rfl) (by omega) (.slice (some ⟨w3.heap.size + 1, 0, none⟩) 0 0) 0 p [] rfl (.inl (D1.out (w3.heap.size + 1) (w3.alloc (.cells #[.string x.nm, .int .i64 x.fr, .int .i64 x.to] 88)) _ (Nat.le_succ _) (by simp) (by repeat (first | exact Ext.refl _ | assumption | refine Ext.alloc ?_ _ | refine Ext.drew ?_ | refine Ext.drewN ?_ _ | refine Ext.setCell ?_ (by first | (simp; done) | (simp; omega) | omega) _ | refine Ext.trans ?_ (by assumption))))) (.inl (D1.out (w3.heap.size + 1) (w3.alloc (.cells #[.string x.nm, .int .i64 x.fr, .int .i64 x.to] 88)) _ (Nat.le_succ _) (by simp) (by repeat (first | exact Ext.refl _ | assumption | refine Ext.alloc ?_ _ | refine Ext.drew ?_ | refine Ext.drewN ?_ _ | refine Ext.setCell ?_ (by first | (simp; done) | (simp; omega) | omega) _ | refine Ext.trans ?_ (by assumption))))) 0 w3.heap.size _ (nspCell (m.take p)) rfl (Hpre.out _ (by repeat (first | exact Ext.refl _ | assumption | refine Ext.alloc ?_ _ | refine Ext.drew ?_ | refine Ext.drewN ?_ _ | refine Ext.setCell ?_ (by first | (simp; done) | (simp; omega) | omega) _ | refine Ext.trans ?_ (by assumption)))) (fun i _ => nspCell_one _ i) (by unfold maxLen; omega) (by omega) (by first | (simp; done) | (simp; omega)) ?_; intro v1 w5 hown1 hput1; have Hx1 := Lib.hid (hput1.ext (show Ext w3 _ from (by repeat (first | exact Ext.refl _ | assumption | refine Ext.alloc ?_ _ | refine Ext.drew ?_ | refine Ext.drewN ?_ _ | refine Ext.setCell ?_ (by first | (simp; done) | (simp; omega) | omega) _ | refine Ext.trans ?_ (by assumption)))) (Nat.le_refl _)); have hz1 := Hx1.out.size; have Ho1 := Lib.hid (show w5.ownsRow w3.heap.size 88 3 v1 p (cellsOf (p * 3) (nspCell (m.take p))) from by simpa using hown1); have Hp1 := Lib.hid (fun (gb : Nat) (cs : List Value) hB (hne : gb ≠ w3.heap.size + 1) => box_put (g := gb) (cs := cs) hput1 rfl hB hne); have k1 := (Hx1.out.cell (p := ⟨b, off + j * 3, none⟩) hbw3).trans c1; have k2 := (Hx1.out.cell (p := ⟨b, off + j * 3 + 1, none⟩) hbw3).trans c2; have k3 := (Hx1.out.cell (p := ⟨b, off + j * 3 + 2, none⟩) hbw3).trans c3; clear hown1 hput1)
            | (refine step_append_row rfl (.tmp 107) (.tmp 112) 24 rfl w3.heap.size 88 3 32 Tryz.underlying24 (by kernel_rfl) (by omega) _ p 1 _ rfl (.inl (row_ext Ho1.out (by repeat (first | exact Ext.refl _ | assumption | refine Ext.alloc ?_ _ | refine Ext.drew ?_ | refine Ext.drewN ?_ _ | refine Ext.setCell ?_ (by first | (simp; done) | (simp; omega) | omega) _ | refine Ext.trans ?_ (by assumption))))) (.inr (by omega)) 0 _ _ (nspCell [x]) rfl (BR.out _ _ (by
                first
                  | (refine BX.out _ w5 _ rfl ?_ <;> ((repeat (first | exact Ext.refl _ | assumption | refine Ext.alloc ?_ _ | refine Ext.drew ?_ | refine Ext.drewN ?_ _ | refine Ext.setCell ?_ (by first | (simp; done) | (simp; omega) | omega) _ | refine Ext.trans ?_ (by assumption))); done))
                  | (refine BX.out _ w5.drew _ rfl ?_ <;> ((repeat (first | exact Ext.refl _ | assumption | refine Ext.alloc ?_ _ | refine Ext.drew ?_ | refine Ext.drewN ?_ _ | refine Ext.setCell ?_ (by first | (simp; done) | (simp; omega) | omega) _ | refine Ext.trans ?_ (by assumption))); done))
                  | (refine (Hp1.out _ _ (BX.out _ (w3.alloc (.cells #[] 88)) _ ?_ ?_) ?_).ext ?_ <;> first | ((repeat (first | exact Ext.refl _ | assumption | refine Ext.alloc ?_ _ | refine Ext.drew ?_ | refine Ext.drewN ?_ _ | refine Ext.setCell ?_ (by first | (simp; done) | (simp; omega) | omega) _ | refine Ext.trans ?_ (by assumption))); done) | (simp; done) | (simp; omega))
                  | (refine (Hp1.out _ _ (BX.out _ w3 _ rfl ?_) ?_).ext ?_ <;> first | ((repeat (first | exact Ext.refl _ | assumption | refine Ext.alloc ?_ _ | refine Ext.drew ?_ | refine Ext.drewN ?_ _ | refine Ext.setCell ?_ (by first | (simp; done) | (simp; omega) | omega) _ | refine Ext.trans ?_ (by assumption))); done) | (simp; done) | omega))) (fun i _ => nspCell_one _ i) (by unfold maxLen; omega) (by omega) (by first | exact hz1 | (simp; done) | (simp; omega)) ?_; intro v2 w6 hown2 hput2; have Hx2 := Lib.hid (hput2.ext (show Ext w3 _ from Hx1.out.trans (by repeat (first | exact Ext.refl _ | assumption | refine Ext.alloc ?_ _ | refine Ext.drew ?_ | refine Ext.drewN ?_ _ | refine Ext.setCell ?_ (by first | (simp; done) | (simp; omega) | omega) _ | refine Ext.trans ?_ (by assumption)))) (Nat.le_refl _)); have hz2 := Hx2.out.size; have Ho2 := Lib.hid hown2; clear hown2 hput2)
            | (refine step_append_row rfl (.tmp 113) (.tmp 116) 24 rfl w3.heap.size 88 3 32 Tryz.underlying24 (by kernel_rfl) (by omega) _ (p + 1) (m.length - p) _ rfl (.inl (row_ext Ho2.out (by repeat (first | exact Ext.refl _ | assumption | refine Ext.alloc ?_ _ | refine Ext.drew ?_ | refine Ext.drewN ?_ _ | refine Ext.setCell ?_ (by first | (simp; done) | (simp; omega) | omega) _ | refine Ext.trans ?_ (by assumption))))) (.inl (row_ext Ho2.out (by repeat (first | exact Ext.refl _ | assumption | refine Ext.alloc ?_ _ | refine Ext.drew ?_ | refine Ext.drewN ?_ _ | refine Ext.setCell ?_ (by first | (simp; done) | (simp; omega) | omega) _ | refine Ext.trans ?_ (by assumption))))) 0 w3.heap.size _ (fun k => nspCell m (p * 3 + k)) rfl (Hsuf.out _ (Hx2.out.trans (by repeat (first | exact Ext.refl _ | assumption | refine Ext.alloc ?_ _ | refine Ext.drew ?_ | refine Ext.drewN ?_ _ | refine Ext.setCell ?_ (by first | (simp; done) | (simp; omega) | omega) _ | refine Ext.trans ?_ (by assumption)))) _ (by by_cases e : cc = p <;> simp [e])) (fun i _ => nspCell_one _ _) (by unfold maxLen; omega) (by omega) (by first | exact hz2 | (simp; omega)) ?_; intro v3 w7 hown3 hput3; have Hx3 := Lib.hid (hput3.ext (Hx2.out.trans (show Ext w6 _ from (by repeat (first | exact Ext.refl _ | assumption | refine Ext.alloc ?_ _ | refine Ext.drew ?_ | refine Ext.drewN ?_ _ | refine Ext.setCell ?_ (by first | (simp; done) | (simp; omega) | omega) _ | refine Ext.trans ?_ (by assumption))))) (Nat.le_refl _)); have Ho3 := Lib.hid (ins_row q4 hown3); clear hown3 hput3))
          all_goals go_wp2_with fail
          all_goals
            go_roundg (l.length - (j + 1))
            case measure => omega
            case rel =>
              obtain ⟨g', c', rfl, hg', hc'⟩ := Ho3.out.shape (by rw [insP_len q4]; omega)
              exact ⟨j + 1, insP m x p, g', c', by omega, by go_num, rfl, Nat.le_trans hz3 hg', hc', hxw3.trans (Hx3.out.trans (by repeat (first | exact Ext.refl _ | assumption | refine Ext.alloc ?_ _ | refine Ext.drew ?_ | refine Ext.drewN ?_ _ | refine Ext.setCell ?_ (by first | (simp; done) | (simp; omega) | omega) _ | refine Ext.trans ?_ (by assumption)))), Lib.hid (ownsRow_mono (Ho3.out.ext (by repeat (first | exact Ext.refl _ | assumption | refine Ext.alloc ?_ _ | refine Ext.drew ?_ | refine Ext.drewN ?_ _ | refine Ext.setCell ?_ (by first | (simp; done) | (simp; omega) | omega) _ | refine Ext.trans ?_ (by assumption)))) hz3), Hin⟩
    · obtain rfl : j = l.length := by omega
      go_wp2_with fail
      go_ret
      exact ⟨_, m, rfl, Hq.out, (by repeat (first | exact Ext.refl _ | assumption | refine Ext.alloc ?_ _ | refine Ext.drew ?_ | refine Ext.drewN ?_ _ | refine Ext.setCell ?_ (by first | (simp; done) | (simp; omega) | omega) _ | refine Ext.trans ?_ (by assumption))), Hr.out.ext (by repeat (first | exact Ext.refl _ | assumption | refine Ext.alloc ?_ _ | refine Ext.drew ?_ | refine Ext.drewN ?_ _ | refine Ext.setCell ?_ (by first | (simp; done) | (simp; omega) | omega) _ | refine Ext.trans ?_ (by assumption)))⟩
end Go.Proofs.YtbddkmlfjghllaaGreatDoor
