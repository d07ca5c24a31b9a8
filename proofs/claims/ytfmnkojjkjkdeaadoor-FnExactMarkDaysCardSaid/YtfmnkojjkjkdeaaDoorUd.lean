/- Contract: united: spans put in order by the library's sort and joined. -/
import Derived.Test.YtfmnkojjkjkdeaaDoorUn
namespace Go.Proofs.YtfmnkojjkjkdeaaDoor
set_option linter.unusedVariables false
set_option linter.unusedSimpArgs false
open Go.RowKit
attribute [local go_sem] cell_onto
set_option maxRecDepth 100000 in
set_option maxHeartbeats 16000000 in
theorem impl_united (v : Value) (l : List Sp) (w : World) (h : Spans w 0 w.heap.size v l) (hl : l.length ≤ 1048576) (hbd : ∀ i, i < l.length → SpBd' (spAt l i)) (hft : FromTo l) :
    Calls Tryd.prog 71 #[v] w (NewOwn 74 2 (mkL l).length (spanCell (mkL l)) w) := by
  obtain ⟨A, c, rfl, hn, hc⟩ := h.len
  have Hcl := Lib.hid (slices_Clone_spans _ l w h hl)
  have Hbd := Lib.hid hbd
  have Hft := Lib.hid hft
  have Hmx := Lib.hid max_bd
  clear h hbd hft
  go_enter Tryd.func71, Tryd.ntmps71
  go_wp2_with (first
    | (go_at_call 86; refine Calls.mono Hcl.out ?_; rintro e w1 ⟨v3, rfl, hx1, hr1⟩; obtain ⟨A3, c3, rfl⟩ := ownsRow_len hr1; have Hx1 := Lib.hid hx1; have Hr1 := Lib.hid (show RowSp w1 w.heap.size 74 (.slice A3 l.length c3) l from hr1); have hz1 := hx1.size; clear hx1 hr1)
    | (go_at_call 87; refine Calls.mono (sort_spans w1 (.slice A3 l.length c3) w.heap.size l Hr1.out hz1 hl) ?_; rintro e wa ⟨rfl, S, hp, hs, hr, hx⟩; have Hxa := Lib.hid (hx w Hx1.out (Nat.le_refl _)); have Hperm := Lib.hid hp; have Hsf := Lib.hid hs; have HrS := Lib.hid hr; clear hp hs hr hx))
  have hza := Hxa.out.size
  have HSl : Hid (S.length = l.length) := Lib.hid Hperm.out.length_eq
  have HSb : Hid (∀ i, i < l.length → SpBd' (spAt S i)) := Lib.hid (fun i hi => perm_all (P := SpBd') Hperm.out Hbd.out i (by rw [HSl.out]; exact hi))
  have HgS : Hid (∀ g, (Value.slice A3 l.length c3).ownBlock = some g → g < wa.heap.size) := Lib.hid (fun g hg => (HrS.out.lt g hg).2)
  have Hm : Hid (mkL l = joinTo S l.length) := Lib.hid (by rw [← joinL_perm Hperm.out Hsf.out Hft.out]; unfold joinL; rw [HSl.out])
  have Hr0 : Hid (RowSp (wa.alloc (.cells #[] 74)) wa.heap.size 74 (.slice (some ⟨wa.heap.size, 0, none⟩) 0 0) []) := Lib.hid (by
    have := World.ownsRow_made (base := wa.heap.size) (e := 74) (size := 2) wa #[] 0 (by simp) (Nat.zero_le _) rfl
    unfold RowSp
    simpa [cellsOf] using this)
  clear Hr1 Hx1 Hcl hz1 Hft Hsf
  go_loopg [4, 6, 7, 15] l.length (fun q u4 u6 u7 i wq => ∃ (j n7 : Nat), j + q = l.length ∧ i = .int .i64 j ∧ Hid (Ext w wq) ∧ Hid (RowSp wq w.heap.size 74 (.slice A3 l.length c3) S) ∧ Hid (RowSp wq wa.heap.size 74 u4 (joinTo S j)) ∧ wa.heap.size ≤ wq.heap.size ∧ Hid ((joinTo S j).length = n7) ∧ ∃ A7 c7, u4 = .slice A7 n7 c7)
  case atStart => exact ⟨0, 0, by omega, rfl, Lib.hid (Hxa.out.alloc _), Lib.hid (HrS.out.ext (by repeat (first | exact Ext.refl _ | assumption | refine Ext.alloc ?_ _ | refine Ext.drew ?_ | refine Ext.drewN ?_ _ | refine Ext.setCell ?_ (by first | (simp; done) | (simp; omega) | omega) _ | refine Ext.trans ?_ (by assumption)))), Hr0, by simp, Lib.hid rfl, _, _, rfl⟩
  clear Hr0 HrS
  case round =>
    obtain ⟨j, n7, hj, rfl, Hx, HrS, HrO, hz, HOl, A7, c7, rfl⟩ := hrel
    have hx := Hx.out
    have Hpre := Lib.hid (joinTo_len S j)
    by_cases hlt : j < l.length
    · obtain ⟨gS, capS, e, hgS, hgSz, hcapS, hcS⟩ := HrS.out.cells (by rw [HSl.out]; omega)
      rw [HSl.out] at e hcS
      injection e with e1 e2 e3
      subst e1 e3
      obtain ⟨s1, s2, -, -⟩ := hcS j hlt
      have hgSa : gS < wa.heap.size := HgS.out gS rfl
      obtain ⟨⟨f1, f2⟩, ⟨f3, f4⟩⟩ := HSb.out j hlt
      have HOb := Lib.hid (joinTo_all (l := S) (P := fun x => -4611686018427387904 ≤ x ∧ x ≤ 4611686018427387904) Hmx.out (fun i hi => (HSb.out i (by rw [← HSl.out]; exact hi)).2) j (by rw [HSl.out]; omega))
      have Hstep : Hid (joinTo S (j + 1) = joinS (joinTo S j) (spAt S j)) := Lib.hid rfl
      have hn7 : n7 ≤ j := by rw [← HOl.out]; exact Hpre.out
      clear hcS
      have hgSr : gS < wr.heap.size := by omega
      generalize hss : spAt S j = s at *
      clear hss
      have T0 : decide ((j : Int) < (l.length : Int)) = true := decide_eq_true (by omega)
      have T0n : decide (j < l.length) = true := decide_eq_true hlt
      obtain ⟨wb, hwb⟩ : ∃ x : World, x = wr.alloc (.cells #[.int .i64 s.fr, .int .i64 s.to] 74) := ⟨_, rfl⟩
      have hxb : Ext wr wb := by rw [hwb]; exact (by repeat (first | exact Ext.refl _ | assumption | refine Ext.alloc ?_ _ | refine Ext.drew ?_ | refine Ext.drewN ?_ _ | refine Ext.setCell ?_ (by first | (simp; done) | (simp; omega) | omega) _ | refine Ext.trans ?_ (by assumption)))
      have lb := (show Boxed wb wr.heap.size [.int .i64 s.fr, .int .i64 s.to] from by rw [hwb]; exact Boxed.new wr [.int .i64 s.fr, .int .i64 s.to] 74); have lb0 := lb.at0; have lb1 := lb.at1; have lbg := lb.1; have Hlb := Lib.hid lb; clear lb
      have Hx2 := Lib.hid (hx.trans hxb)
      have HrS2 := Lib.hid (HrS.out.ext hxb)
      have HrO2 := Lib.hid (HrO.out.ext hxb)
      have hzb := hxb.size
      by_cases hc : joinTo S j ≠ [] ∧ s.fr ≤ (spAt (joinTo S j) ((joinTo S j).length - 1)).to + 1
      · have Hj : Hid (joinTo S (j + 1) = (joinTo S j).set (n7 - 1) ⟨(spAt (joinTo S j) (n7 - 1)).fr, max (spAt (joinTo S j) (n7 - 1)).to s.to⟩) := Lib.hid (by rw [Hstep.out]; unfold joinS; rw [if_pos hc, HOl.out])
        obtain ⟨hne, hle⟩ := hc
        have hpos : 0 < n7 := by rw [← HOl.out]; exact List.length_pos_iff.2 hne
        rw [HOl.out] at hle
        obtain ⟨g7, cap7, e, hg7, hg7z, hcap7, hcO⟩ := HrO.out.cells (by rw [HOl.out]; exact hpos)
        rw [HOl.out] at e hcO
        injection e with e1 e2 e3
        subst e1 e3
        obtain ⟨o1, o2, o3, o4⟩ := hcO (n7 - 1) (by omega)
        obtain ⟨b1, b2⟩ := HOb.out (n7 - 1) (by rw [HOl.out]; omega)
        have Hset : Hid (∀ w', Ext wr w' → ∀ x, RowSp (w'.setCell ⟨g7, (n7 - 1) * 2 + 1, none⟩ (.int .i64 x)) wa.heap.size 74 (.slice (some ⟨g7, 0, none⟩) n7 c7) ((joinTo S j).set (n7 - 1) ⟨(spAt (joinTo S j) (n7 - 1)).fr, x⟩)) := Lib.hid (fun w' hx' x => by
          have hr := HrO.out.ext hx'
          rw [← HOl.out] at hr
          have := RowSp.setTo hr (k := (joinTo S j).length - 1) (by rw [HOl.out]; omega) x
          rwa [List.length_set, HOl.out] at this)
        have HS2 : Hid (∀ w', Ext wr w' → ∀ x, RowSp (w'.setCell ⟨g7, (n7 - 1) * 2 + 1, none⟩ (.int .i64 x)) w.heap.size 74 (.slice (some ⟨gS, 0, none⟩) l.length c3) S) := Lib.hid (fun w' hx' x => ownsRow_setCell_other (HrS.out.ext hx') (fun h => by
          have : gS = g7 := by simpa [Value.ownBlock] using h
          omega) _)
        have HOl2 : Hid ((joinTo S (j + 1)).length = n7) := Lib.hid (by rw [Hj.out, List.length_set]; exact HOl.out)
        generalize joinTo S j = O at *
        have T1 : decide ((0 : Int) ≤ (n7 : Int) - 1) = true := decide_eq_true (by omega)
        have T1a : decide ((1 : Int) ≤ (n7 : Int)) = true := decide_eq_true (by omega)
        have T1b : decide (1 ≤ n7) = true := decide_eq_true (by omega)
        have T1c : decide (0 < n7) = true := decide_eq_true (by omega)
        have T1d : decide ((0 : Int) < (n7 : Int)) = true := decide_eq_true (by omega)
        have h1n : 1 ≤ n7 := hpos
        have T3 : decide (s.fr ≤ (spAt O (n7 - 1)).to + 1) = true := decide_eq_true hle
        have i1 : (0 : Int) ≤ (n7 : Int) - 1 := by omega
        have i2 : (n7 : Int) - 1 < (n7 : Int) := by omega
        have i3 : ((n7 : Int) - 1).toNat = n7 - 1 := by omega
        have p2 := (hxb.cell (p := ⟨g7, (n7 - 1) * 2 + 1, none⟩) hg7z).trans o2
        have hg7b : g7 < wb.heap.size := by omega
        clear hcO hne hle
        go_wp2_with fail
        rw [← hwb]
        clear hwb
        (refine wp_region_onto prog_mixed (by kernel_rfl) ?_; (repeat (go_big_quiet_step ((fail)))); refine onto_end ?_; intro w1 hx1)
        have hxq : Ext wb w1 := (by repeat (first | exact Ext.refl _ | assumption | refine Ext.alloc ?_ _ | refine Ext.drew ?_ | refine Ext.drewN ?_ _ | refine Ext.setCell ?_ (by first | (simp; done) | (simp; omega) | omega) _ | refine Ext.trans ?_ (by assumption)))
        have hxq2 : Ext wr w1 := hxb.trans hxq
        have hzq := hxq.size
        have r2 := (hxq.cell (p := ⟨g7, (n7 - 1) * 2 + 1, none⟩) hg7b).trans p2
        have r3 := (hxq2.frozen (p := ⟨g7, (n7 - 1) * 2 + 1, none⟩) hg7z).trans o4
        have hg71 : g7 < w1.heap.size := by omega
        have lc := Hlb.out.ext hxq; have lc0 := lc.at0; have lc1 := lc.at1; have lcg := lc.1; have Hlc := Lib.hid lc; clear lc
        have Hx1 := Lib.hid (Hx.out.trans hxq2)
        clear o1 o2 o3 o4 s1 s2 hx hx1 T3 p2 lb0 lb1 lbg
        go_wp2_with fail
        have Hrw := Lib.hid (show RowSp ((w1.setCell ⟨g7, (n7 - 1) * 2 + 1, none⟩ (.int .i64 (max (spAt O (n7 - 1)).to s.to))).drew) wa.heap.size 74 (.slice (some ⟨g7, 0, none⟩) n7 c7) (joinTo S (j + 1)) from by rw [Hj.out]; exact (Hset.out w1 hxq2 _).ext ((Ext.refl _).drew))
        have HsS := Lib.hid ((HS2.out w1 hxq2 (max (spAt O (n7 - 1)).to s.to)).ext ((Ext.refl _).drew))
        have Hxx := Lib.hid (show Ext w ((w1.setCell ⟨g7, (n7 - 1) * 2 + 1, none⟩ (.int .i64 (max (spAt O (n7 - 1)).to s.to))).drew) from (Hx1.out.setCell (by show w.heap.size ≤ g7; omega) _).drew)
        go_region
        go_wp2_with fail
        go_roundg (l.length - (j + 1))
        case measure => omega
        case rel => exact ⟨j + 1, n7, by omega, by go_num, Hxx, HsS, Hrw, by simp; omega, HOl2, _, _, rfl⟩
      · have Hj : Hid (joinTo S (j + 1) = joinTo S j ++ [s]) := Lib.hid (by rw [Hstep.out]; unfold joinS; rw [if_neg hc])
        have HOl2 : Hid ((joinTo S (j + 1)).length = n7 + 1) := Lib.hid (by rw [Hj.out, List.length_append, HOl.out]; rfl)
        by_cases hpos : 0 < n7
        case' pos =>
          have hne : joinTo S j ≠ [] := List.length_pos_iff.1 (by rw [HOl.out]; exact hpos)
          have hle : ¬ s.fr ≤ (spAt (joinTo S j) (n7 - 1)).to + 1 := fun hh => hc ⟨hne, by rw [HOl.out]; exact hh⟩
          obtain ⟨g7, cap7, e, hg7, hg7z, hcap7, hcO⟩ := HrO.out.cells (by rw [HOl.out]; exact hpos)
          rw [HOl.out] at e hcO
          injection e with e1 e2 e3
          subst e1 e3
          obtain ⟨o1, o2, -, -⟩ := hcO (n7 - 1) (by omega)
          have p2 := (hxb.cell (p := ⟨g7, (n7 - 1) * 2 + 1, none⟩) hg7z).trans o2
          have hg7b : g7 < wb.heap.size := by omega
          obtain ⟨b1, b2⟩ := HOb.out (n7 - 1) (by rw [HOl.out]; omega)
          have T1 : decide ((0 : Int) ≤ (n7 : Int) - 1) = true := decide_eq_true (by omega)
          have T1a : decide ((1 : Int) ≤ (n7 : Int)) = true := decide_eq_true (by omega)
          have T1b : decide (1 ≤ n7) = true := decide_eq_true (by omega)
          have T1c : decide (0 < n7) = true := decide_eq_true (by omega)
          have T1d : decide ((0 : Int) < (n7 : Int)) = true := decide_eq_true (by omega)
          have h1n : 1 ≤ n7 := hpos
          have i1 : (0 : Int) ≤ (n7 : Int) - 1 := by omega
          have i2 : (n7 : Int) - 1 < (n7 : Int) := by omega
          have i3 : ((n7 : Int) - 1).toNat = n7 - 1 := by omega
          have T3 : decide (s.fr ≤ (spAt (joinTo S j) (n7 - 1)).to + 1) = false := decide_eq_false hle
          clear hcO hne hle e2
        case' neg =>
          obtain rfl : n7 = 0 := by omega
          clear hpos
        all_goals
          generalize hOO : joinTo S j = O at *
          clear hc hOO
          go_wp2_with fail
          rw [← hwb]
          clear hwb
          (refine wp_region_onto prog_mixed (by kernel_rfl) ?_; (repeat (go_big_quiet_step ((fail)))); refine onto_end ?_; intro w1 hx1)
          have hxq : Ext wb w1 := (by repeat (first | exact Ext.refl _ | assumption | refine Ext.alloc ?_ _ | refine Ext.drew ?_ | refine Ext.drewN ?_ _ | refine Ext.setCell ?_ (by first | (simp; done) | (simp; omega) | omega) _ | refine Ext.trans ?_ (by assumption)))
          have hxq2 : Ext wr w1 := hxb.trans hxq
          have hzq := hxq.size
          have lc := Hlb.out.ext hxq; have lc0 := lc.at0; have lc1 := lc.at1; have lcg := lc.1; have Hlc := Lib.hid lc; clear lc
          have Hx1 := Lib.hid (Hx.out.trans hxq2)
          have Hsrc : Hid (Row (w1.alloc (.cells #[.int .i64 s.fr, .int .i64 s.to] 74)) 0 (w1.alloc (.cells #[.int .i64 s.fr, .int .i64 s.to] 74)).heap.size 2 (.slice (some ⟨w1.heap.size, 0, none⟩) 1 1) 1 (spanCell [s])) := Lib.hid ((Boxed.new w1 [.int .i64 s.fr, .int .i64 s.to] 74).row rfl (span_cells _ _))
          have hsl := HOl.out
          clear s1 s2 hx1 hx lb0 lb1 lbg
          go_wp2_with (at_builtin; refine wpList_append_row _ rfl _ _ 38 rfl wa.heap.size 74 2 16 Tryd.underlying38 (by kernel_rfl) (by omega) _ O.length 1 _ rfl (.inl (row_ext HrO.out (by repeat (first | exact Ext.refl _ | assumption | refine Ext.alloc ?_ _ | refine Ext.drew ?_ | refine Ext.drewN ?_ _ | refine Ext.setCell ?_ (by first | (simp; done) | (simp; omega) | omega) _ | refine Ext.trans ?_ (by assumption))))) (.inr (by omega)) 0 _ _ (spanCell [s]) rfl Hsrc.out (fun i _ => spanCell_one _ i) (by rw [hsl]; unfold maxLen; omega) (by rw [hsl]; omega) (by simp; omega) ?_; intro v5 w5 hown5 hput5; have Hrow5 := Lib.hid (RowSp.push hown5); have Hx5 := Lib.hid (hput5.ext (show Ext w (w1.alloc (.cells #[.int .i64 s.fr, .int .i64 s.to] 74)) from (by repeat (first | exact Ext.refl _ | assumption | refine Ext.alloc ?_ _ | refine Ext.drew ?_ | refine Ext.drewN ?_ _ | refine Ext.setCell ?_ (by first | (simp; done) | (simp; omega) | omega) _ | refine Ext.trans ?_ (by assumption)))) (by omega)); have Hp5 := Lib.hid hput5; obtain ⟨A5, c5, rfl⟩ := ownsRow_len hown5; clear hown5 hput5)
          have HsS := Lib.hid (show RowSp w5 w.heap.size 74 (.slice (some ⟨gS, 0, none⟩) l.length c3) S from ownsRow_off (HrS.out.ext (show Ext wr (w1.alloc (.cells #[.int .i64 s.fr, .int .i64 s.to] 74)) from hxq2.alloc _)) Hp5.out.1 (fun g hg hh => by
            have h1 := HgS.out g hg
            have h2 := hh.1
            omega))
          have hz5 := Hp5.out.size
          simp at hz5
          rw [hsl] at Hrow5
          go_roundg (l.length - (j + 1))
          case measure => omega
          case rel => exact ⟨j + 1, _, by omega, by go_num, Hx5, HsS, Lib.hid (by rw [Hj.out]; exact Hrow5.out), by omega, HOl2, _, _, rfl⟩
    · obtain rfl : j = l.length := by omega
      go_wp2_with fail
      go_ret
      have h3 := HrO.out
      rw [← Hm.out] at h3
      have h4 : (mkL l).length = n7 := by rw [Hm.out]; exact HOl.out
      exact ⟨_, rfl, hx, ownsRow_mono h3 hza⟩
end Go.Proofs.YtfmnkojjkjkdeaaDoor
