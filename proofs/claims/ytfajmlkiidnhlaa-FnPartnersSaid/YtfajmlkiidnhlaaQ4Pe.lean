/- Texts merged (a claim holds at most sixty files): Pe, Pg. -/
import Derived.Test.YtfajmlkiidnhlaaQ4Us
import Derived.Test.YtfajmlkiidnhlaaQ4Mu
import Derived.Test.YtfajmlkiidnhlaaQ4G
import Derived.Deep.RegionHeld3
/- Contract: l19Partner. -/
namespace Go.Proofs.Ytfajmlkiidnhlaa
set_option linter.unusedVariables false
set_option linter.unusedSimpArgs false
open Go.RowKit
attribute [local go_sem] cell_onto
set_option maxRecDepth 100000 in
set_option maxHeartbeats 16000000 in
theorem spec_l19Partner (s k : Value) (n : Net) (l : Lk) (after : Bool) (w : World) (h : NetIn w s k n) (hp : PartIn n l) :
    Calls Try.prog 145 #[.agg #[s, k], .agg #[.int .i64 l.be, .int .i64 l.af, .int .i64 l.le, .int .i64 l.mo], .bool after] w (NewOwn 129 2 (partN n l after).length (spanCell (partN n l after)) w) := by
  obtain ⟨As, cs, rfl, hns, hcs⟩ := h.1.len
  obtain ⟨Ak, ck, rfl, hnk, hck⟩ := h.2.len
  obtain ⟨⟨be1, be2⟩, ⟨af1, af2⟩, ⟨le1, le2⟩, ⟨mo1, mo2⟩, hlm, hsd⟩ := hp
  have Hsd := Lib.hid hsd
  have hbe : l.be.toNat < n.sets.length := by omega
  have haf : l.af.toNat < n.sets.length := by omega
  have Hb := Lib.hid (hsd _ hbe)
  have Ha := Lib.hid (hsd _ haf)
  obtain ⟨b, off, ua, rfl, _, hbz, h1, h2⟩ := h.1.at_ haf
  obtain ⟨b', off', ub, e, _, _, h3, h4⟩ := h.1.at_ hbe
  injection e with e
  injection e with e1 e2
  subst e1 e2
  have Hua := Lib.hid h2
  have Hub := Lib.hid h4
  clear h hsd h2 h4
  obtain ⟨Aa, ca, rfl, hna, hca⟩ := Hua.out.len
  obtain ⟨Ab, cb, rfl, hnb, hcb⟩ := Hub.out.len
  go_enter Try.func145, Try.ntmps145
  go_wp2_with fail
  obtain ⟨w0, hw0⟩ : ∃ x : World, x = (w.alloc (.cells #[.slice (some ⟨b, off, none⟩) n.sets.length cs, .slice Ak n.links.length ck] 27)).alloc (.cells #[.int .i64 l.be, .int .i64 l.af, .int .i64 l.le, .int .i64 l.mo] 60) := ⟨_, rfl⟩
  have hx0 : Ext w w0 := by rw [hw0]; exact (by repeat (first | exact Ext.refl _ | assumption | refine Ext.alloc ?_ _ | refine Ext.drew ?_ | refine Ext.drewN ?_ _ | refine Ext.setCell ?_ (by first | (simp; done) | (simp; omega) | omega) _ | refine Ext.trans ?_ (by assumption)))
  have nb := (show Boxed w0 w.heap.size [.slice (some ⟨b, off, none⟩) n.sets.length cs, .slice Ak n.links.length ck] from by rw [hw0]; exact (Boxed.new w [.slice (some ⟨b, off, none⟩) n.sets.length cs, .slice Ak n.links.length ck] 27).ext ((Ext.refl _).alloc _)); have nb0 := nb.at0; have nb1 := nb.at1; have nbg := nb.1; have Hnb := Lib.hid nb; clear nb
  have Hlb0 : Hid (Boxed w0 (w.heap.size + 1) [.int .i64 l.be, .int .i64 l.af, .int .i64 l.le, .int .i64 l.mo]) := Lib.hid (by
    have := Boxed.new (w.alloc (.cells #[.slice (some ⟨b, off, none⟩) n.sets.length cs, .slice Ak n.links.length ck] 27)) [.int .i64 l.be, .int .i64 l.af, .int .i64 l.le, .int .i64 l.mo] 60
    rw [World.size_alloc] at this
    rw [hw0]
    exact this)
  have lb := Hlb0.out; have lb0 := lb.at0; have lb1 := lb.at1; have lb2 := lb.at2; have lb3 := lb.at3; have lbg := lb.1; have Hlb := Lib.hid lb; clear lb
  rw [← hw0]
  clear hw0 Hlb0
  have q1 := (hx0.cell (p := ⟨b, off + l.af.toNat, none⟩) hbz).trans h1
  have q2 := (hx0.cell (p := ⟨b, off + l.be.toNat, none⟩) hbz).trans h3
  have hz0 := hx0.size
  have hb0 : b < w0.heap.size := by omega
  clear h1 h3
  (refine wp_region_onto prog_mixed (by kernel_rfl) ?_; (repeat (go_big_quiet_step ((fail)))); refine onto_end ?_; intro w1 hx1)
  have hx01 : Ext w0 w1 := (by repeat (first | exact Ext.refl _ | assumption | refine Ext.alloc ?_ _ | refine Ext.drew ?_ | refine Ext.drewN ?_ _ | refine Ext.setCell ?_ (by first | (simp; done) | (simp; omega) | omega) _ | refine Ext.trans ?_ (by assumption)))
  have lc := Hlb.out.ext hx01; have lc0 := lc.at0; have lc1 := lc.at1; have lc2 := lc.at2; have lc3 := lc.at3; have lcg := lc.1; have Hlc := Lib.hid lc; clear lc
  have hxw := hx0.trans hx01
  have q3 := (hx01.cell (p := ⟨b, off + l.af.toNat, none⟩) hb0).trans q1
  have q4 := (hx01.cell (p := ⟨b, off + l.be.toNat, none⟩) hb0).trans q2
  have hb1 : b < w1.heap.size := by have := hx01.size; omega
  clear q1 q2
  clear nb0 nb1 nbg lb0 lb1 lb2 lb3 lbg hx1
  cases after
  case' true =>
    have HsO := Lib.hid (Hub.out.up hxw)
    have HsW := Lib.hid (Hua.out.up hxw)
    have hlen := Hb.out.len
    have HPd := Hb
    have Hpn : Hid (partN n l true = metL (setAt n.sets l.af.toNat) (mkL (clTo (l.le) (l.mo) (setAt n.sets l.be.toNat) (setAt n.sets l.be.toNat).length))) := Lib.hid (part_eq (lo := l.le) (hi := l.mo) Ha.out Hb.out.fromTo (by omega)).symm
    obtain ⟨O, hO⟩ : ∃ O, O = setAt n.sets l.be.toNat := ⟨_, rfl⟩
    rw [← hO] at HsO hlen HPd Hpn ⊢
    clear hO
    go_wp2_with fail
    obtain ⟨wa, hwa⟩ : ∃ x : World, x = w1 := ⟨_, rfl⟩
    rw [← hwa] at hxw HsO HsW ⊢
    have hza := hxw.size
    clear hwa
    have Hrow0 : Hid (RowSp (wa.alloc (.cells #[] 129)) wa.heap.size 129 (.slice (some ⟨wa.heap.size, 0, none⟩) 0 0) []) := Lib.hid (by
      have := World.ownsRow_made (base := wa.heap.size) (e := 129) (size := 2) wa #[] 0 (by simp) (Nat.zero_le _) rfl
      unfold RowSp
      simpa [cellsOf] using this)
    clear hx01 hx0
    try clear lc0 lc1 lc2 lc3 lcg
    try clear q3 q4
    try clear mb0 mb1 mbg
    go_wp2_with fail
    go_loopg [11, 12, 13] O.length (fun q u11 i u13 wq => ∃ (j n11 : Nat), j + q = O.length ∧ i = .int .i64 j ∧ Hid (Ext wa wq) ∧ Hid (RowSp wq wa.heap.size 129 u11 (clTo (l.le) (l.mo) O j)) ∧ Hid ((clTo (l.le) (l.mo) O j).length = n11) ∧ ∃ A c, u11 = .slice A n11 c)
    case atStart => exact ⟨0, 0, by omega, rfl, Lib.hid (by repeat (first | exact Ext.refl _ | assumption | refine Ext.alloc ?_ _ | refine Ext.drew ?_ | refine Ext.drewN ?_ _ | refine Ext.setCell ?_ (by first | (simp; done) | (simp; omega) | omega) _ | refine Ext.trans ?_ (by assumption))), Hrow0, Lib.hid rfl, _, _, rfl⟩
    clear Hrow0
    case round =>
      obtain ⟨j, n11, hj, rfl, Hx, Hrow, Hln, A11, c11, rfl⟩ := hrel
      have hx := Hx.out
      have hz := hx.size
      have hnj : n11 ≤ j := by rw [← Hln.out]; exact clTo_len _ _ _ _
      by_cases hlt : j < O.length
      · obtain ⟨g, og, rfl, _, hgz, s1, s2⟩ := HsO.out.at_ hlt
        have r1 := (hx.cell (p := ⟨g, og + j * 2, none⟩) hgz).trans s1
        have r2 := (hx.cell (p := ⟨g, og + j * 2 + 1, none⟩) hgz).trans s2
        have hgr : g < wr.heap.size := by omega
        obtain ⟨⟨d1, d2⟩, ⟨d3, d4⟩⟩ := HPd.out.2 j hlt
        have T0 : decide ((j : Int) < (O.length : Int)) = true := decide_eq_true (by omega)
        have T0n : decide (j < O.length) = true := decide_eq_true hlt
        have v1 : IntKind.i64.wrap ((spAt O j).fr + (l.le)) = (spAt O j).fr + (l.le) := IntWalk.i64_in _ (by omega)
        have v2 : IntKind.i64.wrap ((spAt O j).to + (l.mo)) = (spAt O j).to + (l.mo) := IntWalk.i64_in _ (by omega)
        clear s1 s2
        go_wp2_with fail
        go_region
        have E1 : max 0 ((spAt O j).fr + l.le) = (clS (l.le) (l.mo) (spAt O j)).fr := rfl
        have E2 : min 730499 ((spAt O j).to + l.mo) = (clS (l.le) (l.mo) (spAt O j)).to := rfl
        rw [E1, E2]
        have b1s : -4611686018427387904 ≤ (clS (l.le) (l.mo) (spAt O j)).fr ∧ (clS (l.le) (l.mo) (spAt O j)).fr ≤ 4611686018427387904 := by rw [← E1]; omega
        have b2s : -4611686018427387904 ≤ (clS (l.le) (l.mo) (spAt O j)).to ∧ (clS (l.le) (l.mo) (spAt O j)).to ≤ 4611686018427387904 := by rw [← E2]; omega
        clear E1 E2 v1 v2
        have Hout : Hid (clTo (l.le) (l.mo) O (j + 1) = if (clS (l.le) (l.mo) (spAt O j)).fr ≤ (clS (l.le) (l.mo) (spAt O j)).to then clTo (l.le) (l.mo) O j ++ [clS (l.le) (l.mo) (spAt O j)] else clTo (l.le) (l.mo) O j) := Lib.hid rfl
        generalize clS (l.le) (l.mo) (spAt O j) = s at *
        generalize clTo (l.le) (l.mo) O j = P at *
        obtain ⟨s1f, s2f⟩ := b1s
        obtain ⟨s3f, s4f⟩ := b2s
        obtain ⟨wb, hwb⟩ : ∃ x : World, x = (wr.alloc (.cells #[.int .i64 s.fr, .int .i64 s.to] 129)).drew := ⟨_, rfl⟩
        have hxb : Ext wr wb := by rw [hwb]; exact (by repeat (first | exact Ext.refl _ | assumption | refine Ext.alloc ?_ _ | refine Ext.drew ?_ | refine Ext.drewN ?_ _ | refine Ext.setCell ?_ (by first | (simp; done) | (simp; omega) | omega) _ | refine Ext.trans ?_ (by assumption)))
        have bb := (show Boxed wb wr.heap.size [.int .i64 s.fr, .int .i64 s.to] from by rw [hwb]; exact (Boxed.new wr [.int .i64 s.fr, .int .i64 s.to] 129).ext ((Ext.refl _).drew)); have bb0 := bb.at0; have bb1 := bb.at1; have bbg := bb.1; have Hbb := Lib.hid bb; clear bb
        rw [← hwb]
        clear hwb
        have Hxw := Lib.hid (Hx.out.trans hxb)
        have HrW := Lib.hid (Hrow.out.ext hxb)
        clear r1 r2 hgr hx hxb Hx Hrow
        by_cases hle : s.fr ≤ s.to
        · have T3 : decide (s.fr ≤ s.to) = true := decide_eq_true hle
          have Ho2 : Hid (clTo (l.le) (l.mo) O (j + 1) = P ++ [s]) := Lib.hid (by rw [Hout.out, if_pos hle])
          have hsl := Hln.out
          have Hsrc : Hid (Row (wb.alloc (.cells #[.int .i64 s.fr, .int .i64 s.to] 129)) 0 (wb.alloc (.cells #[.int .i64 s.fr, .int .i64 s.to] 129)).heap.size 2 (.slice (some ⟨wb.heap.size, 0, none⟩) 1 1) 1 (spanCell [s])) := Lib.hid ((Boxed.new wb [.int .i64 s.fr, .int .i64 s.to] 129).row rfl (span_cells _ _))
          clear hle Hout
          go_wp2_with (at_builtin; refine wpList_append_row _ rfl _ _ 42 rfl wa.heap.size 129 2 16 Try.underlying42 (by kernel_rfl) (by omega) _ P.length 1 _ rfl (.inl (row_ext HrW.out (by repeat (first | exact Ext.refl _ | assumption | refine Ext.alloc ?_ _ | refine Ext.drew ?_ | refine Ext.drewN ?_ _ | refine Ext.setCell ?_ (by first | (simp; done) | (simp; omega) | omega) _ | refine Ext.trans ?_ (by assumption))))) (.inr (by have := Hxw.out.size; omega)) 0 _ _ (spanCell [s]) rfl Hsrc.out (fun i _ => spanCell_one _ i) (by rw [hsl]; unfold maxLen; omega) (by rw [hsl]; omega) (by simp; omega) ?_; intro v5 w5 hown5 hput5; have Hrow5 := Lib.hid (RowSp.push hown5); have Hx5 := Lib.hid (hput5.ext (show Ext wa (wb.alloc (.cells #[.int .i64 s.fr, .int .i64 s.to] 129)) from Hxw.out.trans (by repeat (first | exact Ext.refl _ | assumption | refine Ext.alloc ?_ _ | refine Ext.drew ?_ | refine Ext.drewN ?_ _ | refine Ext.setCell ?_ (by first | (simp; done) | (simp; omega) | omega) _ | refine Ext.trans ?_ (by assumption)))) (Nat.le_refl _)); obtain ⟨A6, c6, rfl⟩ := ownsRow_len hown5; clear hown5 hput5)
          have HO5 : Hid ((clTo (l.le) (l.mo) O (j + 1)).length = n11 + 1) := Lib.hid (by rw [Ho2.out, List.length_append, Hln.out]; rfl)
          rw [hsl] at Hrow5
          clear hsl T3
          go_roundg (O.length - (j + 1))
          case measure => omega
          case rel => exact ⟨j + 1, n11 + 1, by omega, by go_num, Hx5, Lib.hid (by rw [Ho2.out]; exact Hrow5.out), HO5, _, _, rfl⟩
        · have T3 : decide (s.fr ≤ s.to) = false := decide_eq_false hle
          have Ho2 : Hid (clTo (l.le) (l.mo) O (j + 1) = P) := Lib.hid (by rw [Hout.out, if_neg hle])
          clear hle Hout
          go_wp2_with fail
          go_roundg (O.length - (j + 1))
          case measure => omega
          case rel => exact ⟨j + 1, n11, by omega, by go_num, Hxw, Lib.hid (by rw [Ho2.out]; exact HrW.out), Lib.hid (by rw [Ho2.out]; exact Hln.out), _, _, rfl⟩
      · obtain rfl : j = O.length := by omega
        have HxF := Lib.hid (hxw.trans hx)
        have Hft := Lib.hid (clTo_fromTo (l.le) (l.mo) O)
        have Hal := Lib.hid (clTo_all (l.le) (l.mo) O O.length)
        have Hsp := Lib.hid (show Spans wr 0 wr.heap.size (.slice A11 n11 c11) (clTo (l.le) (l.mo) O O.length) from RowSp.spans Hrow.out)
        have hl2 : (clTo (l.le) (l.mo) O O.length).length ≤ 1048576 := by rw [Hln.out]; omega
        have Hmk := Lib.hid (mkL_len (clTo (l.le) (l.mo) O O.length))
        have Hmb := Lib.hid (mkL_bd (a := 0) (b := 730499) Hft.out (fun i hi => ⟨(Hal.out i hi).2.1.1, (Hal.out i hi).2.2.2⟩))
        have Hmo := Lib.hid (mkL_ok Hft.out)
        have hlo := Ha.out.len
        go_wp2_with (first
          | (go_at_call 169; refine Calls.mono (spec_l02Make _ _ _ Hsp.out hl2 (sp_bd (a := 0) (b := 730499) Hft.out (fun i hi => ⟨(Hal.out i hi).2.1.1, (Hal.out i hi).2.2.2⟩) (by omega) (by omega))) ?_; rintro e wu ⟨vu, rfl, hxu, hru⟩; have Hxu := Lib.hid hxu; have Hru := Lib.hid hru; clear hxu hru)
          | (go_at_call 201; refine Calls.mono (spec_l02Meet _ _ _ _ _ ((HsW.out.up (hx.trans Hxu.out))) (RowSp.spans Hru.out) (by have := Hmk.out; omega) Ha.out.bd (sp_bd (fun i hi => (Hmo.out.1 i hi).1) Hmb.out (by omega) (by omega))) ?_; rintro e wm ⟨vm, rfl, hxm, hrm⟩; have Hxm := Lib.hid hxm; have Hrm := Lib.hid hrm; clear hxm hrm))
        go_ret
        rw [Hpn.out]
        refine ⟨_, rfl, HxF.out.trans (Hxu.out.trans Hxm.out), ownsRow_mono Hrm.out (HxF.out.trans Hxu.out).size⟩
  case' false =>
    go_wp2_with fail
    have mb := Hnb.out.ext hx01; have mb0 := mb.at0; have mb1 := mb.at1; have mbg := mb.1; have Hmb := Lib.hid mb; clear mb
    (refine wp_region_onto prog_mixed (by kernel_rfl) ?_; (repeat (go_big_quiet_step ((fail)))); refine onto_end ?_; intro w2 hx2)
    have hx12 : Ext w1 w2 := (by repeat (first | exact Ext.refl _ | assumption | refine Ext.alloc ?_ _ | refine Ext.drew ?_ | refine Ext.drewN ?_ _ | refine Ext.setCell ?_ (by first | (simp; done) | (simp; omega) | omega) _ | refine Ext.trans ?_ (by assumption)))
    have hxw := hxw.trans hx12
    clear hx2 hx12
    have HsO := Lib.hid (Hua.out.up hxw)
    have HsW := Lib.hid (Hub.out.up hxw)
    have hlen := Ha.out.len
    have HPd := Ha
    have Hpn : Hid (partN n l false = metL (setAt n.sets l.be.toNat) (mkL (clTo (-l.mo) (-l.le) (setAt n.sets l.af.toNat) (setAt n.sets l.af.toNat).length))) := Lib.hid (part_eq (lo := -l.mo) (hi := -l.le) Hb.out Ha.out.fromTo (by omega)).symm
    obtain ⟨O, hO⟩ : ∃ O, O = setAt n.sets l.af.toNat := ⟨_, rfl⟩
    rw [← hO] at HsO hlen HPd Hpn ⊢
    clear hO
    go_wp2_with fail
    obtain ⟨wa, hwa⟩ : ∃ x : World, x = w2 := ⟨_, rfl⟩
    rw [← hwa] at hxw HsO HsW ⊢
    have hza := hxw.size
    clear hwa
    have Hrow0 : Hid (RowSp (wa.alloc (.cells #[] 129)) wa.heap.size 129 (.slice (some ⟨wa.heap.size, 0, none⟩) 0 0) []) := Lib.hid (by
      have := World.ownsRow_made (base := wa.heap.size) (e := 129) (size := 2) wa #[] 0 (by simp) (Nat.zero_le _) rfl
      unfold RowSp
      simpa [cellsOf] using this)
    clear hx01 hx0
    try clear lc0 lc1 lc2 lc3 lcg
    try clear q3 q4
    try clear mb0 mb1 mbg
    go_wp2_with fail
    go_loopg [11, 12, 13] O.length (fun q u11 i u13 wq => ∃ (j n11 : Nat), j + q = O.length ∧ i = .int .i64 j ∧ Hid (Ext wa wq) ∧ Hid (RowSp wq wa.heap.size 129 u11 (clTo (-l.mo) (-l.le) O j)) ∧ Hid ((clTo (-l.mo) (-l.le) O j).length = n11) ∧ ∃ A c, u11 = .slice A n11 c)
    case atStart => exact ⟨0, 0, by omega, rfl, Lib.hid (by repeat (first | exact Ext.refl _ | assumption | refine Ext.alloc ?_ _ | refine Ext.drew ?_ | refine Ext.drewN ?_ _ | refine Ext.setCell ?_ (by first | (simp; done) | (simp; omega) | omega) _ | refine Ext.trans ?_ (by assumption))), Hrow0, Lib.hid rfl, _, _, rfl⟩
    clear Hrow0
    case round =>
      obtain ⟨j, n11, hj, rfl, Hx, Hrow, Hln, A11, c11, rfl⟩ := hrel
      have hx := Hx.out
      have hz := hx.size
      have hnj : n11 ≤ j := by rw [← Hln.out]; exact clTo_len _ _ _ _
      by_cases hlt : j < O.length
      · obtain ⟨g, og, rfl, _, hgz, s1, s2⟩ := HsO.out.at_ hlt
        have r1 := (hx.cell (p := ⟨g, og + j * 2, none⟩) hgz).trans s1
        have r2 := (hx.cell (p := ⟨g, og + j * 2 + 1, none⟩) hgz).trans s2
        have hgr : g < wr.heap.size := by omega
        obtain ⟨⟨d1, d2⟩, ⟨d3, d4⟩⟩ := HPd.out.2 j hlt
        have T0 : decide ((j : Int) < (O.length : Int)) = true := decide_eq_true (by omega)
        have T0n : decide (j < O.length) = true := decide_eq_true hlt
        have v1 : IntKind.i64.wrap ((spAt O j).fr + (-l.mo)) = (spAt O j).fr + (-l.mo) := IntWalk.i64_in _ (by omega)
        have v2 : IntKind.i64.wrap ((spAt O j).to + (-l.le)) = (spAt O j).to + (-l.le) := IntWalk.i64_in _ (by omega)
        clear s1 s2
        go_wp2_with fail
        go_region
        have E1 : max 0 ((spAt O j).fr + -l.mo) = (clS (-l.mo) (-l.le) (spAt O j)).fr := rfl
        have E2 : min 730499 ((spAt O j).to + -l.le) = (clS (-l.mo) (-l.le) (spAt O j)).to := rfl
        rw [E1, E2]
        have b1s : -4611686018427387904 ≤ (clS (-l.mo) (-l.le) (spAt O j)).fr ∧ (clS (-l.mo) (-l.le) (spAt O j)).fr ≤ 4611686018427387904 := by rw [← E1]; omega
        have b2s : -4611686018427387904 ≤ (clS (-l.mo) (-l.le) (spAt O j)).to ∧ (clS (-l.mo) (-l.le) (spAt O j)).to ≤ 4611686018427387904 := by rw [← E2]; omega
        clear E1 E2 v1 v2
        have Hout : Hid (clTo (-l.mo) (-l.le) O (j + 1) = if (clS (-l.mo) (-l.le) (spAt O j)).fr ≤ (clS (-l.mo) (-l.le) (spAt O j)).to then clTo (-l.mo) (-l.le) O j ++ [clS (-l.mo) (-l.le) (spAt O j)] else clTo (-l.mo) (-l.le) O j) := Lib.hid rfl
        generalize clS (-l.mo) (-l.le) (spAt O j) = s at *
        generalize clTo (-l.mo) (-l.le) O j = P at *
        obtain ⟨s1f, s2f⟩ := b1s
        obtain ⟨s3f, s4f⟩ := b2s
        obtain ⟨wb, hwb⟩ : ∃ x : World, x = (wr.alloc (.cells #[.int .i64 s.fr, .int .i64 s.to] 129)).drew := ⟨_, rfl⟩
        have hxb : Ext wr wb := by rw [hwb]; exact (by repeat (first | exact Ext.refl _ | assumption | refine Ext.alloc ?_ _ | refine Ext.drew ?_ | refine Ext.drewN ?_ _ | refine Ext.setCell ?_ (by first | (simp; done) | (simp; omega) | omega) _ | refine Ext.trans ?_ (by assumption)))
        have bb := (show Boxed wb wr.heap.size [.int .i64 s.fr, .int .i64 s.to] from by rw [hwb]; exact (Boxed.new wr [.int .i64 s.fr, .int .i64 s.to] 129).ext ((Ext.refl _).drew)); have bb0 := bb.at0; have bb1 := bb.at1; have bbg := bb.1; have Hbb := Lib.hid bb; clear bb
        rw [← hwb]
        clear hwb
        have Hxw := Lib.hid (Hx.out.trans hxb)
        have HrW := Lib.hid (Hrow.out.ext hxb)
        clear r1 r2 hgr hx hxb Hx Hrow
        by_cases hle : s.fr ≤ s.to
        · have T3 : decide (s.fr ≤ s.to) = true := decide_eq_true hle
          have Ho2 : Hid (clTo (-l.mo) (-l.le) O (j + 1) = P ++ [s]) := Lib.hid (by rw [Hout.out, if_pos hle])
          have hsl := Hln.out
          have Hsrc : Hid (Row (wb.alloc (.cells #[.int .i64 s.fr, .int .i64 s.to] 129)) 0 (wb.alloc (.cells #[.int .i64 s.fr, .int .i64 s.to] 129)).heap.size 2 (.slice (some ⟨wb.heap.size, 0, none⟩) 1 1) 1 (spanCell [s])) := Lib.hid ((Boxed.new wb [.int .i64 s.fr, .int .i64 s.to] 129).row rfl (span_cells _ _))
          clear hle Hout
          go_wp2_with (at_builtin; refine wpList_append_row _ rfl _ _ 42 rfl wa.heap.size 129 2 16 Try.underlying42 (by kernel_rfl) (by omega) _ P.length 1 _ rfl (.inl (row_ext HrW.out (by repeat (first | exact Ext.refl _ | assumption | refine Ext.alloc ?_ _ | refine Ext.drew ?_ | refine Ext.drewN ?_ _ | refine Ext.setCell ?_ (by first | (simp; done) | (simp; omega) | omega) _ | refine Ext.trans ?_ (by assumption))))) (.inr (by have := Hxw.out.size; omega)) 0 _ _ (spanCell [s]) rfl Hsrc.out (fun i _ => spanCell_one _ i) (by rw [hsl]; unfold maxLen; omega) (by rw [hsl]; omega) (by simp; omega) ?_; intro v5 w5 hown5 hput5; have Hrow5 := Lib.hid (RowSp.push hown5); have Hx5 := Lib.hid (hput5.ext (show Ext wa (wb.alloc (.cells #[.int .i64 s.fr, .int .i64 s.to] 129)) from Hxw.out.trans (by repeat (first | exact Ext.refl _ | assumption | refine Ext.alloc ?_ _ | refine Ext.drew ?_ | refine Ext.drewN ?_ _ | refine Ext.setCell ?_ (by first | (simp; done) | (simp; omega) | omega) _ | refine Ext.trans ?_ (by assumption)))) (Nat.le_refl _)); obtain ⟨A6, c6, rfl⟩ := ownsRow_len hown5; clear hown5 hput5)
          have HO5 : Hid ((clTo (-l.mo) (-l.le) O (j + 1)).length = n11 + 1) := Lib.hid (by rw [Ho2.out, List.length_append, Hln.out]; rfl)
          rw [hsl] at Hrow5
          clear hsl T3
          go_roundg (O.length - (j + 1))
          case measure => omega
          case rel => exact ⟨j + 1, n11 + 1, by omega, by go_num, Hx5, Lib.hid (by rw [Ho2.out]; exact Hrow5.out), HO5, _, _, rfl⟩
        · have T3 : decide (s.fr ≤ s.to) = false := decide_eq_false hle
          have Ho2 : Hid (clTo (-l.mo) (-l.le) O (j + 1) = P) := Lib.hid (by rw [Hout.out, if_neg hle])
          clear hle Hout
          go_wp2_with fail
          go_roundg (O.length - (j + 1))
          case measure => omega
          case rel => exact ⟨j + 1, n11, by omega, by go_num, Hxw, Lib.hid (by rw [Ho2.out]; exact HrW.out), Lib.hid (by rw [Ho2.out]; exact Hln.out), _, _, rfl⟩
      · obtain rfl : j = O.length := by omega
        have HxF := Lib.hid (hxw.trans hx)
        have Hft := Lib.hid (clTo_fromTo (-l.mo) (-l.le) O)
        have Hal := Lib.hid (clTo_all (-l.mo) (-l.le) O O.length)
        have Hsp := Lib.hid (show Spans wr 0 wr.heap.size (.slice A11 n11 c11) (clTo (-l.mo) (-l.le) O O.length) from RowSp.spans Hrow.out)
        have hl2 : (clTo (-l.mo) (-l.le) O O.length).length ≤ 1048576 := by rw [Hln.out]; omega
        have Hmk := Lib.hid (mkL_len (clTo (-l.mo) (-l.le) O O.length))
        have Hmb := Lib.hid (mkL_bd (a := 0) (b := 730499) Hft.out (fun i hi => ⟨(Hal.out i hi).2.1.1, (Hal.out i hi).2.2.2⟩))
        have Hmo := Lib.hid (mkL_ok Hft.out)
        have hlo := Hb.out.len
        go_wp2_with (first
          | (go_at_call 169; refine Calls.mono (spec_l02Make _ _ _ Hsp.out hl2 (sp_bd (a := 0) (b := 730499) Hft.out (fun i hi => ⟨(Hal.out i hi).2.1.1, (Hal.out i hi).2.2.2⟩) (by omega) (by omega))) ?_; rintro e wu ⟨vu, rfl, hxu, hru⟩; have Hxu := Lib.hid hxu; have Hru := Lib.hid hru; clear hxu hru)
          | (go_at_call 201; refine Calls.mono (spec_l02Meet _ _ _ _ _ ((HsW.out.up (hx.trans Hxu.out))) (RowSp.spans Hru.out) (by have := Hmk.out; omega) Hb.out.bd (sp_bd (fun i hi => (Hmo.out.1 i hi).1) Hmb.out (by omega) (by omega))) ?_; rintro e wm ⟨vm, rfl, hxm, hrm⟩; have Hxm := Lib.hid hxm; have Hrm := Lib.hid hrm; clear hxm hrm))
        go_ret
        rw [Hpn.out]
        refine ⟨_, rfl, HxF.out.trans (Hxu.out.trans Hxm.out), ownsRow_mono Hrm.out (HxF.out.trans Hxu.out).size⟩
end Go.Proofs.Ytfajmlkiidnhlaa

/- Contracts: checkLink, limited, PartnerDays, and the reference's. -/
namespace Go.Proofs.Ytfajmlkiidnhlaa
set_option linter.unusedVariables false
set_option linter.unusedSimpArgs false
open Go.RowKit
attribute [local go_sem] cell_onto

/-- two results: spans of the call's own, and a code -/
def NewSps2 (l : List Sp) (e0 : Int) (w : World) (e : Ending) (w' : World) : Prop :=
  ∃ v g, e = .returned (.tuple #[v, .int .i64 e0]) ∧ Ext w w' ∧ (0 < l.length → w.heap.size ≤ g) ∧ Own w' g 2 v l.length (spanCell l)
theorem NewSps2.nil (e0 : Int) {w w' : World} (h : Ext w w') : NewSps2 [] e0 w (.returned (.tuple #[.slice none 0 0, .int .i64 e0])) w' :=
  ⟨_, 0, rfl, h, fun h => absurd h (by simp), Nat.zero_le _, none, 0, rfl, Nat.le_refl _, fun h => absurd h (by simp)⟩
theorem NewSps2.of {T : TypeId} {l : List Sp} {e0 : Int} {w w' : World} {v : Value} (h : Ext w w') (hr : w'.ownsRow w.heap.size T 2 v l.length (cellsOf (l.length * 2) (spanCell l))) : NewSps2 l e0 w (.returned (.tuple #[v, .int .i64 e0])) w' := by
  obtain ⟨g, hg, ho⟩ := Own.of_owned hr
  exact ⟨v, g, rfl, h, fun hn => (hg hn).2, ho⟩
noncomputable def lnkE (n : Net) (i : Int) : Int := bif B (NetOk n) then (bif B (0 ≤ i ∧ i ≤ (n.links.length : Int) - 1) then 0 else 2) else 1
theorem lnk_net {n : Net} {i : Int} (h : ¬ NetOk n) : lnkE n i = 1 := by unfold lnkE; rw [B_false h]; rfl
theorem lnk_no {n : Net} {i : Int} (h : NetOk n) (h2 : ¬ (0 ≤ i ∧ i ≤ (n.links.length : Int) - 1)) : lnkE n i = 2 := by unfold lnkE; rw [B_true h, B_false h2]; rfl
theorem lnk_ok {n : Net} {i : Int} (h : NetOk n) (h2 : 0 ≤ i ∧ i ≤ (n.links.length : Int) - 1) : lnkE n i = 0 := by unfold lnkE; rw [B_true h, B_true h2]; rfl
theorem lnk_zero {n : Net} {i : Int} (h : lnkE n i = 0) : NetOk n ∧ 0 ≤ i ∧ i ≤ (n.links.length : Int) - 1 := by
  by_cases h1 : NetOk n
  · by_cases h2 : 0 ≤ i ∧ i ≤ (n.links.length : Int) - 1
    · exact ⟨h1, h2⟩
    · rw [lnk_no h1 h2] at h; omega
  · rw [lnk_net h1] at h; omega
noncomputable def pdE (n : Net) (i : Int) (o : Bool) : Int := bif B (lnkE n i = 0) then (bif B ((partN n (lkAt n.links i.toNat) o).length ≤ 300) then 0 else 3) else lnkE n i
noncomputable def pdL (n : Net) (i : Int) (o : Bool) : List Sp := bif B (pdE n i o = 0) then partN n (lkAt n.links i.toNat) o else []
theorem pd_no {n : Net} {i : Int} {o : Bool} (h : lnkE n i ≠ 0) : pdE n i o = lnkE n i ∧ pdL n i o = [] := by
  have e : pdE n i o = lnkE n i := by unfold pdE; rw [B_false h]; rfl
  exact ⟨e, by unfold pdL; rw [B_false (by rw [e]; exact h)]; rfl⟩
theorem pd_big {n : Net} {i : Int} {o : Bool} (h : lnkE n i = 0) (h2 : ¬ (partN n (lkAt n.links i.toNat) o).length ≤ 300) : pdE n i o = 3 ∧ pdL n i o = [] := by
  have e : pdE n i o = 3 := by unfold pdE; rw [B_true h, B_false h2]; rfl
  exact ⟨e, by unfold pdL; rw [B_false (by rw [e]; omega)]; rfl⟩
theorem pd_ok {n : Net} {i : Int} {o : Bool} (h : lnkE n i = 0) (h2 : (partN n (lkAt n.links i.toNat) o).length ≤ 300) : pdE n i o = 0 ∧ pdL n i o = partN n (lkAt n.links i.toNat) o := by
  have e : pdE n i o = 0 := by unfold pdE; rw [B_true h, B_true h2]; rfl
  exact ⟨e, by unfold pdL; rw [B_true e]; rfl⟩
theorem partN_ok {n : Net} {l : Lk} {o : Bool} (h : PartIn n l) : SetD (partN n l o) := by
  have hbe := h.be
  have haf := h.af
  have h1 := h.sets l.be.toNat (by omega)
  have h2 := h.sets l.af.toNat (by omega)
  have h3 := h.lm
  cases o
  · exact (partL_ok (lo := -l.mo) (hi := -l.le) h1 h2.fromTo (by omega)).1
  · exact (partL_ok (lo := l.le) (hi := l.mo) h2 h1.fromTo (by omega)).1
theorem pdL_small (n : Net) (i : Int) (o : Bool) : (pdL n i o).length ≤ 1048576 := by
  by_cases h : lnkE n i = 0
  · by_cases h2 : (partN n (lkAt n.links i.toNat) o).length ≤ 300
    · rw [(pd_ok h h2).2]; omega
    · rw [(pd_big h h2).2]; simp
  · rw [(pd_no h).2]; simp
set_option maxHeartbeats 4000000 in
theorem impl_checkLink (s k : Value) (n : Net) (i : Int) (w : World) (h : NetIn w s k n) : Calls Try.prog 140 #[.agg #[s, k], .int .i64 i] w (RetX (.int .i64 (lnkE n i)) w) := by
  obtain ⟨As, cs, rfl, hns, hcs⟩ := h.1.len
  obtain ⟨Ak, ck, rfl, hnk, hck⟩ := h.2.len
  have H := Lib.hid h
  clear h
  go_enter Try.func140, Try.ntmps140
  go_wp2_with fail
  refine Calls.mono (impl_IsNetwork _ _ n _ (H.out.up (by repeat (first | exact Ext.refl _ | assumption | refine Ext.alloc ?_ _ | refine Ext.drew ?_ | refine Ext.drewN ?_ _ | refine Ext.setCell ?_ (by first | (simp; done) | (simp; omega) | omega) _ | refine Ext.trans ?_ (by assumption))))) ?_
  rintro e w1 ⟨rfl, hx1⟩
  have hx : Ext w w1 := (by repeat (first | exact Ext.refl _ | assumption | refine Ext.alloc ?_ _ | refine Ext.drew ?_ | refine Ext.drewN ?_ _ | refine Ext.setCell ?_ (by first | (simp; done) | (simp; omega) | omega) _ | refine Ext.trans ?_ (by assumption)))
  have hb := (Boxed.new w [.slice As n.sets.length cs, .slice Ak n.links.length ck] 27).ext hx1; have hb0 := hb.at0; have hb1 := hb.at1; have hbg := hb.1; have Hhb := Lib.hid hb; clear hb
  by_cases hok : NetOk n
  · have Hok := Lib.hid hok
    have h20 := hok.2.1
    rw [B_true hok]
    clear hok
    go_wp2_with fail
    refine Calls.mono (impl_within i 0 ((n.links.length : Int) - 1) _) ?_
    rintro e w' ⟨rfl, rfl⟩
    by_cases hv : 0 ≤ i ∧ i ≤ (n.links.length : Int) - 1
    · rw [B_true hv]
      have Hl := Lib.hid (lnk_ok Hok.out hv)
      clear hv
      go_wp2_with fail
      go_ret
      exact ⟨by rw [Hl.out]; rfl, hx⟩
    · rw [B_false hv]
      have Hl := Lib.hid (lnk_no Hok.out hv)
      clear hv
      go_wp2_with fail
      go_ret
      exact ⟨by rw [Hl.out]; rfl, hx⟩
  · have Hl := Lib.hid (lnk_net (i := i) hok)
    rw [B_false hok]
    clear hok
    go_wp2_with fail
    go_ret
    exact ⟨by rw [Hl.out]; rfl, hx⟩
set_option maxHeartbeats 4000000 in
theorem spec_l19Code (s k : Value) (n : Net) (i : Int) (w : World) (h : NetIn w s k n) : Calls Try.prog 143 #[.agg #[s, k], .int .i64 i] w (RetX (.int .i64 (lnkE n i)) w) := by
  obtain ⟨As, cs, rfl, hns, hcs⟩ := h.1.len
  obtain ⟨Ak, ck, rfl, hnk, hck⟩ := h.2.len
  have H := Lib.hid h
  clear h
  go_enter Try.func143, Try.ntmps143
  go_wp2_with fail
  refine Calls.mono (spec_IsNetwork _ _ n _ (H.out.up (by repeat (first | exact Ext.refl _ | assumption | refine Ext.alloc ?_ _ | refine Ext.drew ?_ | refine Ext.drewN ?_ _ | refine Ext.setCell ?_ (by first | (simp; done) | (simp; omega) | omega) _ | refine Ext.trans ?_ (by assumption))))) ?_
  rintro e w1 ⟨rfl, hx1⟩
  have hx : Ext w w1 := (by repeat (first | exact Ext.refl _ | assumption | refine Ext.alloc ?_ _ | refine Ext.drew ?_ | refine Ext.drewN ?_ _ | refine Ext.setCell ?_ (by first | (simp; done) | (simp; omega) | omega) _ | refine Ext.trans ?_ (by assumption)))
  have hb := (Boxed.new w [.slice As n.sets.length cs, .slice Ak n.links.length ck] 27).ext hx1; have hb0 := hb.at0; have hb1 := hb.at1; have hbg := hb.1; have Hhb := Lib.hid hb; clear hb
  by_cases hok : NetOk n
  · have Hok := Lib.hid hok
    have h20 := hok.2.1
    rw [B_true hok]
    clear hok
    go_wp2_with fail
    refine Calls.mono (spec_l01In i 0 ((n.links.length : Int) - 1) _) ?_
    rintro e w' ⟨rfl, rfl⟩
    by_cases hv : 0 ≤ i ∧ i ≤ (n.links.length : Int) - 1
    · rw [B_true hv]
      have Hl := Lib.hid (lnk_ok Hok.out hv)
      clear hv
      go_wp2_with fail
      go_ret
      exact ⟨by rw [Hl.out]; rfl, hx⟩
    · rw [B_false hv]
      have Hl := Lib.hid (lnk_no Hok.out hv)
      clear hv
      go_wp2_with fail
      go_ret
      exact ⟨by rw [Hl.out]; rfl, hx⟩
  · have Hl := Lib.hid (lnk_net (i := i) hok)
    rw [B_false hok]
    clear hok
    go_wp2_with fail
    go_ret
    exact ⟨by rw [Hl.out]; rfl, hx⟩
theorem impl_limited_yes (A : Option Addr) (m c : Nat) (w : World) (h : m ≤ 300) : Calls Try.prog 141 #[.slice A m c] w (RetS (.tuple #[.slice A m c, .int .i64 0]) w) := by
  have T1 : decide ((300 : Int) < (m : Int)) = false := decide_eq_false (by omega)
  have T2 : decide (300 < m) = false := decide_eq_false (by omega)
  go_enter Try.func141, Try.ntmps141
  go_wp2_with fail
  go_ret2
  exact ⟨rfl, rfl⟩
theorem impl_limited_no (A : Option Addr) (m c : Nat) (w : World) (hm : m ≤ 9223372036854775807) (h : ¬ m ≤ 300) : Calls Try.prog 141 #[.slice A m c] w (RetS (.tuple #[.slice none 0 0, .int .i64 3]) w) := by
  have T1 : decide ((300 : Int) < (m : Int)) = true := decide_eq_true (by omega)
  have T2 : decide (300 < m) = true := decide_eq_true (by omega)
  go_enter Try.func141, Try.ntmps141
  go_wp2_with fail
  go_ret2
  exact ⟨rfl, rfl⟩
theorem spec_l02Result_yes (A : Option Addr) (m c : Nat) (w : World) (h : m ≤ 300) : Calls Try.prog 144 #[.slice A m c] w (RetS (.tuple #[.slice A m c, .int .i64 0]) w) := by
  have T1 : decide ((300 : Int) < (m : Int)) = false := decide_eq_false (by omega)
  have T2 : decide (300 < m) = false := decide_eq_false (by omega)
  go_enter Try.func144, Try.ntmps144
  go_wp2_with fail
  go_ret2
  exact ⟨rfl, rfl⟩
theorem spec_l02Result_no (A : Option Addr) (m c : Nat) (w : World) (hm : m ≤ 9223372036854775807) (h : ¬ m ≤ 300) : Calls Try.prog 144 #[.slice A m c] w (RetS (.tuple #[.slice none 0 0, .int .i64 3]) w) := by
  have T1 : decide ((300 : Int) < (m : Int)) = true := decide_eq_true (by omega)
  have T2 : decide (300 < m) = true := decide_eq_true (by omega)
  go_enter Try.func144, Try.ntmps144
  go_wp2_with fail
  go_ret2
  exact ⟨rfl, rfl⟩
set_option maxRecDepth 100000 in
set_option maxHeartbeats 8000000 in
theorem impl_PartnerDays (s k : Value) (n : Net) (i : Int) (o : Bool) (w : World) (h : NetIn w s k n) : Calls Try.prog 46 #[.agg #[s, k], .int .i64 i, .bool o] w (NewSps2 (pdL n i o) (pdE n i o) w) := by
  obtain ⟨As, cs, rfl, hns, hcs⟩ := h.1.len
  obtain ⟨Ak, ck, rfl, hnk, hck⟩ := h.2.len
  have H := Lib.hid h
  clear h
  go_enter Try.func46, Try.ntmps46
  go_wp2_with fail
  refine Calls.mono (impl_checkLink _ _ n i _ (H.out.up (by repeat (first | exact Ext.refl _ | assumption | refine Ext.alloc ?_ _ | refine Ext.drew ?_ | refine Ext.drewN ?_ _ | refine Ext.setCell ?_ (by first | (simp; done) | (simp; omega) | omega) _ | refine Ext.trans ?_ (by assumption))))) ?_
  rintro e w1 ⟨rfl, hx1⟩
  have hx : Ext w w1 := (by repeat (first | exact Ext.refl _ | assumption | refine Ext.alloc ?_ _ | refine Ext.drew ?_ | refine Ext.drewN ?_ _ | refine Ext.setCell ?_ (by first | (simp; done) | (simp; omega) | omega) _ | refine Ext.trans ?_ (by assumption)))
  have hb := (Boxed.new w [.slice As n.sets.length cs, .slice Ak n.links.length ck] 27).ext hx1; have hb0 := hb.at0; have hb1 := hb.at1; have hbg := hb.1; have Hhb := Lib.hid hb; clear hb
  clear hx1
  by_cases h0 : lnkE n i = 0
  · have H0 := Lib.hid h0
    have Hz := Lib.hid (lnk_zero h0)
    rw [h0]
    clear h0
    obtain ⟨i1, i2⟩ := Hz.out.2
    have h20 := Hz.out.1.2.1
    have hil : i.toNat < n.links.length := by omega
    have hiN : i < (n.links.length : Int) := by omega
    obtain ⟨b, off, rfl, _, hb, c1, c2, c3, c4⟩ := (H.out.2.ext hx (Nat.le_refl _)).at_ hil
    have Hlk := Lib.hid (Hz.out.1.2.2.2 i.toNat hil)
    have Hpi : Hid (PartIn n (lkAt n.links i.toNat)) := Lib.hid (by
      obtain ⟨⟨x1, x2⟩, ⟨x3, x4⟩, _, x5, x6, x7⟩ := Hlk.out
      exact ⟨⟨x1, by omega⟩, ⟨x3, by omega⟩, x5, x6, x7, fun j hj => (Hz.out.1.2.2.1 j hj).d⟩)
    have hbr : b < w1.heap.size := by have := hx.size; omega
    have Hsd := Lib.hid (partN_ok (o := o) Hpi.out)
    have hpl := Hsd.out.len
    have Hn1 := Lib.hid (fun h3 => pd_ok (o := o) H0.out h3)
    have Hn2 := Lib.hid (fun h3 => pd_big (o := o) H0.out h3)
    generalize hlk : lkAt n.links i.toNat = lk at *
    by_cases h3 : (partN n lk o).length ≤ 300
    · go_wp2_with fail
      go_region_held3 (fun w' => w'.cell? ⟨w.heap.size, 0, none⟩ = some (.slice As n.sets.length cs) ∧ w'.cell? ⟨w.heap.size, 1, none⟩ = some (.slice (some ⟨b, off, none⟩) n.links.length ck) ∧ w'.cell? ⟨b, off + i.toNat * 4, none⟩ = some (.int .i64 lk.be) ∧ w'.cell? ⟨b, off + i.toNat * 4 + 1, none⟩ = some (.int .i64 lk.af) ∧ w'.cell? ⟨b, off + i.toNat * 4 + 2, none⟩ = some (.int .i64 lk.le) ∧ w'.cell? ⟨b, off + i.toNat * 4 + 3, none⟩ = some (.int .i64 lk.mo) ∧ Ext w1 w')
        (exact Ext.and_cell hbg hb0 (by repeat (first | exact Ext.refl _ | assumption | refine Ext.alloc ?_ _ | refine Ext.drew ?_ | refine Ext.drewN ?_ _ | refine Ext.setCell ?_ (by first | (simp; done) | (simp; omega) | omega) _ | refine Ext.trans ?_ (by assumption))) (Ext.and_cell hbg hb1 (by repeat (first | exact Ext.refl _ | assumption | refine Ext.alloc ?_ _ | refine Ext.drew ?_ | refine Ext.drewN ?_ _ | refine Ext.setCell ?_ (by first | (simp; done) | (simp; omega) | omega) _ | refine Ext.trans ?_ (by assumption))) (Ext.and_cell hbr c1 (by repeat (first | exact Ext.refl _ | assumption | refine Ext.alloc ?_ _ | refine Ext.drew ?_ | refine Ext.drewN ?_ _ | refine Ext.setCell ?_ (by first | (simp; done) | (simp; omega) | omega) _ | refine Ext.trans ?_ (by assumption))) (Ext.and_cell hbr c2 (by repeat (first | exact Ext.refl _ | assumption | refine Ext.alloc ?_ _ | refine Ext.drew ?_ | refine Ext.drewN ?_ _ | refine Ext.setCell ?_ (by first | (simp; done) | (simp; omega) | omega) _ | refine Ext.trans ?_ (by assumption))) (Ext.and_cell hbr c3 (by repeat (first | exact Ext.refl _ | assumption | refine Ext.alloc ?_ _ | refine Ext.drew ?_ | refine Ext.drewN ?_ _ | refine Ext.setCell ?_ (by first | (simp; done) | (simp; omega) | omega) _ | refine Ext.trans ?_ (by assumption))) (Ext.and_cell hbr c4 (by repeat (first | exact Ext.refl _ | assumption | refine Ext.alloc ?_ _ | refine Ext.drew ?_ | refine Ext.drewN ?_ _ | refine Ext.setCell ?_ (by first | (simp; done) | (simp; omega) | omega) _ | refine Ext.trans ?_ (by assumption))) (by repeat (first | exact Ext.refl _ | assumption | refine Ext.alloc ?_ _ | refine Ext.drew ?_ | refine Ext.drewN ?_ _ | refine Ext.setCell ?_ (by first | (simp; done) | (simp; omega) | omega) _ | refine Ext.trans ?_ (by assumption)))))))))
        ((first
          | (go_at_call 142; refine Calls.mono (impl_partnerDays _ _ n lk o _ (H.out.up (by repeat (first | exact Ext.refl _ | assumption | refine Ext.alloc ?_ _ | refine Ext.drew ?_ | refine Ext.drewN ?_ _ | refine Ext.setCell ?_ (by first | (simp; done) | (simp; omega) | omega) _ | refine Ext.trans ?_ (by assumption)))) Hpi.out) ?_; rintro e wp ⟨vp, rfl, hxp, hrp⟩; obtain ⟨Ap, cp, rfl⟩ := ownsRow_len hrp)
          | (go_at_call 141; refine Calls.mono (impl_limited_yes _ _ _ _ h3) ?_; rintro e wq ⟨rfl, rfl⟩)))
      go_wp2_with fail
      go_ret2
      rw [(Hn1.out h3).1, (Hn1.out h3).2]
      exact NewSps2.of (hx.trans (show Ext w1 wp from (by repeat (first | exact Ext.refl _ | assumption | refine Ext.alloc ?_ _ | refine Ext.drew ?_ | refine Ext.drewN ?_ _ | refine Ext.setCell ?_ (by first | (simp; done) | (simp; omega) | omega) _ | refine Ext.trans ?_ (by assumption))))) (ownsRow_mono hrp hx.size)
    · go_wp2_with fail
      go_region_held3 (fun w' => w'.cell? ⟨w.heap.size, 0, none⟩ = some (.slice As n.sets.length cs) ∧ w'.cell? ⟨w.heap.size, 1, none⟩ = some (.slice (some ⟨b, off, none⟩) n.links.length ck) ∧ w'.cell? ⟨b, off + i.toNat * 4, none⟩ = some (.int .i64 lk.be) ∧ w'.cell? ⟨b, off + i.toNat * 4 + 1, none⟩ = some (.int .i64 lk.af) ∧ w'.cell? ⟨b, off + i.toNat * 4 + 2, none⟩ = some (.int .i64 lk.le) ∧ w'.cell? ⟨b, off + i.toNat * 4 + 3, none⟩ = some (.int .i64 lk.mo) ∧ Ext w1 w')
        (exact Ext.and_cell hbg hb0 (by repeat (first | exact Ext.refl _ | assumption | refine Ext.alloc ?_ _ | refine Ext.drew ?_ | refine Ext.drewN ?_ _ | refine Ext.setCell ?_ (by first | (simp; done) | (simp; omega) | omega) _ | refine Ext.trans ?_ (by assumption))) (Ext.and_cell hbg hb1 (by repeat (first | exact Ext.refl _ | assumption | refine Ext.alloc ?_ _ | refine Ext.drew ?_ | refine Ext.drewN ?_ _ | refine Ext.setCell ?_ (by first | (simp; done) | (simp; omega) | omega) _ | refine Ext.trans ?_ (by assumption))) (Ext.and_cell hbr c1 (by repeat (first | exact Ext.refl _ | assumption | refine Ext.alloc ?_ _ | refine Ext.drew ?_ | refine Ext.drewN ?_ _ | refine Ext.setCell ?_ (by first | (simp; done) | (simp; omega) | omega) _ | refine Ext.trans ?_ (by assumption))) (Ext.and_cell hbr c2 (by repeat (first | exact Ext.refl _ | assumption | refine Ext.alloc ?_ _ | refine Ext.drew ?_ | refine Ext.drewN ?_ _ | refine Ext.setCell ?_ (by first | (simp; done) | (simp; omega) | omega) _ | refine Ext.trans ?_ (by assumption))) (Ext.and_cell hbr c3 (by repeat (first | exact Ext.refl _ | assumption | refine Ext.alloc ?_ _ | refine Ext.drew ?_ | refine Ext.drewN ?_ _ | refine Ext.setCell ?_ (by first | (simp; done) | (simp; omega) | omega) _ | refine Ext.trans ?_ (by assumption))) (Ext.and_cell hbr c4 (by repeat (first | exact Ext.refl _ | assumption | refine Ext.alloc ?_ _ | refine Ext.drew ?_ | refine Ext.drewN ?_ _ | refine Ext.setCell ?_ (by first | (simp; done) | (simp; omega) | omega) _ | refine Ext.trans ?_ (by assumption))) (by repeat (first | exact Ext.refl _ | assumption | refine Ext.alloc ?_ _ | refine Ext.drew ?_ | refine Ext.drewN ?_ _ | refine Ext.setCell ?_ (by first | (simp; done) | (simp; omega) | omega) _ | refine Ext.trans ?_ (by assumption)))))))))
        ((first
          | (go_at_call 142; refine Calls.mono (impl_partnerDays _ _ n lk o _ (H.out.up (by repeat (first | exact Ext.refl _ | assumption | refine Ext.alloc ?_ _ | refine Ext.drew ?_ | refine Ext.drewN ?_ _ | refine Ext.setCell ?_ (by first | (simp; done) | (simp; omega) | omega) _ | refine Ext.trans ?_ (by assumption)))) Hpi.out) ?_; rintro e wp ⟨vp, rfl, hxp, hrp⟩; obtain ⟨Ap, cp, rfl⟩ := ownsRow_len hrp)
          | (go_at_call 141; refine Calls.mono (impl_limited_no _ _ _ _ (by omega) h3) ?_; rintro e wq ⟨rfl, rfl⟩)))
      go_wp2_with fail
      go_ret2
      rw [(Hn2.out h3).1, (Hn2.out h3).2]
      exact NewSps2.nil 3 (hx.trans (show Ext w1 wp from (by repeat (first | exact Ext.refl _ | assumption | refine Ext.alloc ?_ _ | refine Ext.drew ?_ | refine Ext.drewN ?_ _ | refine Ext.setCell ?_ (by first | (simp; done) | (simp; omega) | omega) _ | refine Ext.trans ?_ (by assumption)))))
  · have Hn := Lib.hid (pd_no (o := o) h0)
    have hne : (lnkE n i != 0) = true := bne_iff_ne.2 h0
    have hde : decide (lnkE n i = 0) = false := decide_eq_false h0
    generalize lnkE n i = c at *
    go_wp2_with fail
    go_ret2
    rw [Hn.out.1, Hn.out.2]
    exact NewSps2.nil c hx
set_option maxRecDepth 100000 in
set_option maxHeartbeats 8000000 in
theorem spec_PartnerDays (s k : Value) (n : Net) (i : Int) (o : Bool) (w : World) (h : NetIn w s k n) : Calls Try.prog 47 #[.agg #[s, k], .int .i64 i, .bool o] w (NewSps2 (pdL n i o) (pdE n i o) w) := by
  obtain ⟨As, cs, rfl, hns, hcs⟩ := h.1.len
  obtain ⟨Ak, ck, rfl, hnk, hck⟩ := h.2.len
  have H := Lib.hid h
  clear h
  go_enter Try.func47, Try.ntmps47
  go_wp2_with fail
  refine Calls.mono (spec_l19Code _ _ n i _ (H.out.up (by repeat (first | exact Ext.refl _ | assumption | refine Ext.alloc ?_ _ | refine Ext.drew ?_ | refine Ext.drewN ?_ _ | refine Ext.setCell ?_ (by first | (simp; done) | (simp; omega) | omega) _ | refine Ext.trans ?_ (by assumption))))) ?_
  rintro e w1 ⟨rfl, hx1⟩
  have hx : Ext w w1 := (by repeat (first | exact Ext.refl _ | assumption | refine Ext.alloc ?_ _ | refine Ext.drew ?_ | refine Ext.drewN ?_ _ | refine Ext.setCell ?_ (by first | (simp; done) | (simp; omega) | omega) _ | refine Ext.trans ?_ (by assumption)))
  have hb := (Boxed.new w [.slice As n.sets.length cs, .slice Ak n.links.length ck] 27).ext hx1; have hb0 := hb.at0; have hb1 := hb.at1; have hbg := hb.1; have Hhb := Lib.hid hb; clear hb
  clear hx1
  by_cases h0 : lnkE n i = 0
  · have H0 := Lib.hid h0
    have Hz := Lib.hid (lnk_zero h0)
    rw [h0]
    clear h0
    obtain ⟨i1, i2⟩ := Hz.out.2
    have h20 := Hz.out.1.2.1
    have hil : i.toNat < n.links.length := by omega
    have hiN : i < (n.links.length : Int) := by omega
    obtain ⟨b, off, rfl, _, hb, c1, c2, c3, c4⟩ := (H.out.2.ext hx (Nat.le_refl _)).at_ hil
    have Hlk := Lib.hid (Hz.out.1.2.2.2 i.toNat hil)
    have Hpi : Hid (PartIn n (lkAt n.links i.toNat)) := Lib.hid (by
      obtain ⟨⟨x1, x2⟩, ⟨x3, x4⟩, _, x5, x6, x7⟩ := Hlk.out
      exact ⟨⟨x1, by omega⟩, ⟨x3, by omega⟩, x5, x6, x7, fun j hj => (Hz.out.1.2.2.1 j hj).d⟩)
    have hbr : b < w1.heap.size := by have := hx.size; omega
    have Hsd := Lib.hid (partN_ok (o := o) Hpi.out)
    have hpl := Hsd.out.len
    have Hn1 := Lib.hid (fun h3 => pd_ok (o := o) H0.out h3)
    have Hn2 := Lib.hid (fun h3 => pd_big (o := o) H0.out h3)
    generalize hlk : lkAt n.links i.toNat = lk at *
    by_cases h3 : (partN n lk o).length ≤ 300
    · go_wp2_with fail
      go_region_held3 (fun w' => w'.cell? ⟨w.heap.size, 0, none⟩ = some (.slice As n.sets.length cs) ∧ w'.cell? ⟨w.heap.size, 1, none⟩ = some (.slice (some ⟨b, off, none⟩) n.links.length ck) ∧ w'.cell? ⟨b, off + i.toNat * 4, none⟩ = some (.int .i64 lk.be) ∧ w'.cell? ⟨b, off + i.toNat * 4 + 1, none⟩ = some (.int .i64 lk.af) ∧ w'.cell? ⟨b, off + i.toNat * 4 + 2, none⟩ = some (.int .i64 lk.le) ∧ w'.cell? ⟨b, off + i.toNat * 4 + 3, none⟩ = some (.int .i64 lk.mo) ∧ Ext w1 w')
        (exact Ext.and_cell hbg hb0 (by repeat (first | exact Ext.refl _ | assumption | refine Ext.alloc ?_ _ | refine Ext.drew ?_ | refine Ext.drewN ?_ _ | refine Ext.setCell ?_ (by first | (simp; done) | (simp; omega) | omega) _ | refine Ext.trans ?_ (by assumption))) (Ext.and_cell hbg hb1 (by repeat (first | exact Ext.refl _ | assumption | refine Ext.alloc ?_ _ | refine Ext.drew ?_ | refine Ext.drewN ?_ _ | refine Ext.setCell ?_ (by first | (simp; done) | (simp; omega) | omega) _ | refine Ext.trans ?_ (by assumption))) (Ext.and_cell hbr c1 (by repeat (first | exact Ext.refl _ | assumption | refine Ext.alloc ?_ _ | refine Ext.drew ?_ | refine Ext.drewN ?_ _ | refine Ext.setCell ?_ (by first | (simp; done) | (simp; omega) | omega) _ | refine Ext.trans ?_ (by assumption))) (Ext.and_cell hbr c2 (by repeat (first | exact Ext.refl _ | assumption | refine Ext.alloc ?_ _ | refine Ext.drew ?_ | refine Ext.drewN ?_ _ | refine Ext.setCell ?_ (by first | (simp; done) | (simp; omega) | omega) _ | refine Ext.trans ?_ (by assumption))) (Ext.and_cell hbr c3 (by repeat (first | exact Ext.refl _ | assumption | refine Ext.alloc ?_ _ | refine Ext.drew ?_ | refine Ext.drewN ?_ _ | refine Ext.setCell ?_ (by first | (simp; done) | (simp; omega) | omega) _ | refine Ext.trans ?_ (by assumption))) (Ext.and_cell hbr c4 (by repeat (first | exact Ext.refl _ | assumption | refine Ext.alloc ?_ _ | refine Ext.drew ?_ | refine Ext.drewN ?_ _ | refine Ext.setCell ?_ (by first | (simp; done) | (simp; omega) | omega) _ | refine Ext.trans ?_ (by assumption))) (by repeat (first | exact Ext.refl _ | assumption | refine Ext.alloc ?_ _ | refine Ext.drew ?_ | refine Ext.drewN ?_ _ | refine Ext.setCell ?_ (by first | (simp; done) | (simp; omega) | omega) _ | refine Ext.trans ?_ (by assumption)))))))))
        ((first
          | (go_at_call 145; refine Calls.mono (spec_l19Partner _ _ n lk o _ (H.out.up (by repeat (first | exact Ext.refl _ | assumption | refine Ext.alloc ?_ _ | refine Ext.drew ?_ | refine Ext.drewN ?_ _ | refine Ext.setCell ?_ (by first | (simp; done) | (simp; omega) | omega) _ | refine Ext.trans ?_ (by assumption)))) Hpi.out) ?_; rintro e wp ⟨vp, rfl, hxp, hrp⟩; obtain ⟨Ap, cp, rfl⟩ := ownsRow_len hrp)
          | (go_at_call 144; refine Calls.mono (spec_l02Result_yes _ _ _ _ h3) ?_; rintro e wq ⟨rfl, rfl⟩)))
      go_wp2_with fail
      go_ret2
      rw [(Hn1.out h3).1, (Hn1.out h3).2]
      exact NewSps2.of (hx.trans (show Ext w1 wp from (by repeat (first | exact Ext.refl _ | assumption | refine Ext.alloc ?_ _ | refine Ext.drew ?_ | refine Ext.drewN ?_ _ | refine Ext.setCell ?_ (by first | (simp; done) | (simp; omega) | omega) _ | refine Ext.trans ?_ (by assumption))))) (ownsRow_mono hrp hx.size)
    · go_wp2_with fail
      go_region_held3 (fun w' => w'.cell? ⟨w.heap.size, 0, none⟩ = some (.slice As n.sets.length cs) ∧ w'.cell? ⟨w.heap.size, 1, none⟩ = some (.slice (some ⟨b, off, none⟩) n.links.length ck) ∧ w'.cell? ⟨b, off + i.toNat * 4, none⟩ = some (.int .i64 lk.be) ∧ w'.cell? ⟨b, off + i.toNat * 4 + 1, none⟩ = some (.int .i64 lk.af) ∧ w'.cell? ⟨b, off + i.toNat * 4 + 2, none⟩ = some (.int .i64 lk.le) ∧ w'.cell? ⟨b, off + i.toNat * 4 + 3, none⟩ = some (.int .i64 lk.mo) ∧ Ext w1 w')
        (exact Ext.and_cell hbg hb0 (by repeat (first | exact Ext.refl _ | assumption | refine Ext.alloc ?_ _ | refine Ext.drew ?_ | refine Ext.drewN ?_ _ | refine Ext.setCell ?_ (by first | (simp; done) | (simp; omega) | omega) _ | refine Ext.trans ?_ (by assumption))) (Ext.and_cell hbg hb1 (by repeat (first | exact Ext.refl _ | assumption | refine Ext.alloc ?_ _ | refine Ext.drew ?_ | refine Ext.drewN ?_ _ | refine Ext.setCell ?_ (by first | (simp; done) | (simp; omega) | omega) _ | refine Ext.trans ?_ (by assumption))) (Ext.and_cell hbr c1 (by repeat (first | exact Ext.refl _ | assumption | refine Ext.alloc ?_ _ | refine Ext.drew ?_ | refine Ext.drewN ?_ _ | refine Ext.setCell ?_ (by first | (simp; done) | (simp; omega) | omega) _ | refine Ext.trans ?_ (by assumption))) (Ext.and_cell hbr c2 (by repeat (first | exact Ext.refl _ | assumption | refine Ext.alloc ?_ _ | refine Ext.drew ?_ | refine Ext.drewN ?_ _ | refine Ext.setCell ?_ (by first | (simp; done) | (simp; omega) | omega) _ | refine Ext.trans ?_ (by assumption))) (Ext.and_cell hbr c3 (by repeat (first | exact Ext.refl _ | assumption | refine Ext.alloc ?_ _ | refine Ext.drew ?_ | refine Ext.drewN ?_ _ | refine Ext.setCell ?_ (by first | (simp; done) | (simp; omega) | omega) _ | refine Ext.trans ?_ (by assumption))) (Ext.and_cell hbr c4 (by repeat (first | exact Ext.refl _ | assumption | refine Ext.alloc ?_ _ | refine Ext.drew ?_ | refine Ext.drewN ?_ _ | refine Ext.setCell ?_ (by first | (simp; done) | (simp; omega) | omega) _ | refine Ext.trans ?_ (by assumption))) (by repeat (first | exact Ext.refl _ | assumption | refine Ext.alloc ?_ _ | refine Ext.drew ?_ | refine Ext.drewN ?_ _ | refine Ext.setCell ?_ (by first | (simp; done) | (simp; omega) | omega) _ | refine Ext.trans ?_ (by assumption)))))))))
        ((first
          | (go_at_call 145; refine Calls.mono (spec_l19Partner _ _ n lk o _ (H.out.up (by repeat (first | exact Ext.refl _ | assumption | refine Ext.alloc ?_ _ | refine Ext.drew ?_ | refine Ext.drewN ?_ _ | refine Ext.setCell ?_ (by first | (simp; done) | (simp; omega) | omega) _ | refine Ext.trans ?_ (by assumption)))) Hpi.out) ?_; rintro e wp ⟨vp, rfl, hxp, hrp⟩; obtain ⟨Ap, cp, rfl⟩ := ownsRow_len hrp)
          | (go_at_call 144; refine Calls.mono (spec_l02Result_no _ _ _ _ (by omega) h3) ?_; rintro e wq ⟨rfl, rfl⟩)))
      go_wp2_with fail
      go_ret2
      rw [(Hn2.out h3).1, (Hn2.out h3).2]
      exact NewSps2.nil 3 (hx.trans (show Ext w1 wp from (by repeat (first | exact Ext.refl _ | assumption | refine Ext.alloc ?_ _ | refine Ext.drew ?_ | refine Ext.drewN ?_ _ | refine Ext.setCell ?_ (by first | (simp; done) | (simp; omega) | omega) _ | refine Ext.trans ?_ (by assumption)))))
  · have Hn := Lib.hid (pd_no (o := o) h0)
    have hne : (lnkE n i != 0) = true := bne_iff_ne.2 h0
    have hde : decide (lnkE n i = 0) = false := decide_eq_false h0
    generalize lnkE n i = c at *
    go_wp2_with fail
    go_ret2
    rw [Hn.out.1, Hn.out.2]
    exact NewSps2.nil c hx
end Go.Proofs.Ytfajmlkiidnhlaa
