/- Contract: partnerDays. -/
import Derived.Test.YtfajmlkiidnhlaaQ3Nm
import Derived.Test.YtfajmlkiidnhlaaQ3Mt
import Derived.Test.YtfajmlkiidnhlaaQ3Us
namespace Go.Proofs.Ytfajmlkiidnhlaa
set_option linter.unusedVariables false
set_option linter.unusedSimpArgs false
open Go.RowKit
attribute [local go_sem] cell_onto
theorem RowSp.spans {w : World} {base : Nat} {T : TypeId} {v : Value} {l : List Sp} (h : RowSp w base T v l) : Spans w 0 w.heap.size v l := by
  obtain ⟨g, hg, ho⟩ := Own.of_owned h
  exact ho.row (fun h0 => ⟨Nat.zero_le _, ho.lt h0⟩)
/-- what is asked of the network and the link -/
structure PartIn (n : Net) (l : Lk) : Prop where
  be : 0 ≤ l.be ∧ l.be < n.sets.length
  af : 0 ≤ l.af ∧ l.af < n.sets.length
  le : -730499 ≤ l.le ∧ l.le ≤ 730499
  mo : -730499 ≤ l.mo ∧ l.mo ≤ 730499
  lm : l.le ≤ l.mo
  sets : ∀ i, i < n.sets.length → SetD (setAt n.sets i)
set_option maxRecDepth 100000 in
set_option maxHeartbeats 16000000 in
theorem impl_partnerDays (s k : Value) (n : Net) (l : Lk) (after : Bool) (w : World) (h : NetIn w s k n) (hp : PartIn n l) :
    Calls Try.prog 142 #[.agg #[s, k], .agg #[.int .i64 l.be, .int .i64 l.af, .int .i64 l.le, .int .i64 l.mo], .bool after] w (NewOwn 129 2 (partN n l after).length (spanCell (partN n l after)) w) := by
  obtain ⟨As, cs, rfl, hns, hcs⟩ := h.1.len
  obtain ⟨Ak, ck, rfl, hnk, hck⟩ := h.2.len
  obtain ⟨⟨be1, be2⟩, ⟨af1, af2⟩, ⟨le1, le2⟩, ⟨mo1, mo2⟩, hlm, hsd⟩ := hp
  have Hsd := Lib.hid hsd
  have hbe : l.be.toNat < n.sets.length := by omega
  have haf : l.af.toNat < n.sets.length := by omega
  have Hb := Lib.hid (hsd _ hbe)
  have Ha := Lib.hid (hsd _ haf)
  obtain ⟨b, off, ua, rfl, _, hbz, h1, h2⟩ := h.1.at_ haf
  obtain ⟨b', off', ub, e, _, _, h3, h4⟩ := h.1.at_ hbe
  injection e with e
  injection e with e1 e2
  subst e1 e2
  have Hua := Lib.hid h2
  have Hub := Lib.hid h4
  clear h hsd h2 h4
  obtain ⟨Aa, ca, rfl, hna, hca⟩ := Hua.out.len
  obtain ⟨Ab, cb, rfl, hnb, hcb⟩ := Hub.out.len
  go_enter Try.func142, Try.ntmps142
  go_wp2_with fail
  obtain ⟨w0, hw0⟩ : ∃ x : World, x = (w.alloc (.cells #[.slice (some ⟨b, off, none⟩) n.sets.length cs, .slice Ak n.links.length ck] 27)).alloc (.cells #[.int .i64 l.be, .int .i64 l.af, .int .i64 l.le, .int .i64 l.mo] 60) := ⟨_, rfl⟩
  have hx0 : Ext w w0 := by rw [hw0]; exact (by repeat (first | exact Ext.refl _ | assumption | refine Ext.alloc ?_ _ | refine Ext.drew ?_ | refine Ext.drewN ?_ _ | refine Ext.setCell ?_ (by first | (simp; done) | (simp; omega) | omega) _ | refine Ext.trans ?_ (by assumption)))
  have nb := (show Boxed w0 w.heap.size [.slice (some ⟨b, off, none⟩) n.sets.length cs, .slice Ak n.links.length ck] from by rw [hw0]; exact (Boxed.new w [.slice (some ⟨b, off, none⟩) n.sets.length cs, .slice Ak n.links.length ck] 27).ext ((Ext.refl _).alloc _)); have nb0 := nb.at0; have nb1 := nb.at1; have nbg := nb.1; have Hnb := Lib.hid nb; clear nb
  have Hlb0 : Hid (Boxed w0 (w.heap.size + 1) [.int .i64 l.be, .int .i64 l.af, .int .i64 l.le, .int .i64 l.mo]) := Lib.hid (by
    have := Boxed.new (w.alloc (.cells #[.slice (some ⟨b, off, none⟩) n.sets.length cs, .slice Ak n.links.length ck] 27)) [.int .i64 l.be, .int .i64 l.af, .int .i64 l.le, .int .i64 l.mo] 60
    rw [World.size_alloc] at this
    rw [hw0]
    exact this)
  have lb := Hlb0.out; have lb0 := lb.at0; have lb1 := lb.at1; have lb2 := lb.at2; have lb3 := lb.at3; have lbg := lb.1; have Hlb := Lib.hid lb; clear lb
  rw [← hw0]
  clear hw0 Hlb0
  have q1 := (hx0.cell (p := ⟨b, off + l.af.toNat, none⟩) hbz).trans h1
  have q2 := (hx0.cell (p := ⟨b, off + l.be.toNat, none⟩) hbz).trans h3
  have hz0 := hx0.size
  have hb0 : b < w0.heap.size := by omega
  clear h1 h3
  (refine wp_region_onto prog_mixed (by kernel_rfl) ?_; (repeat (go_big_quiet_step ((fail)))); refine onto_end ?_; intro w1 hx1)
  have hx01 : Ext w0 w1 := (by repeat (first | exact Ext.refl _ | assumption | refine Ext.alloc ?_ _ | refine Ext.drew ?_ | refine Ext.drewN ?_ _ | refine Ext.setCell ?_ (by first | (simp; done) | (simp; omega) | omega) _ | refine Ext.trans ?_ (by assumption)))
  have lc := Hlb.out.ext hx01; have lc0 := lc.at0; have lc1 := lc.at1; have lc2 := lc.at2; have lc3 := lc.at3; have lcg := lc.1; have Hlc := Lib.hid lc; clear lc
  have hxw := hx0.trans hx01
  clear q1 q2 nb0 nb1 nbg lb0 lb1 lb2 lb3 lbg hx1
  cases after
  case' true =>
    have hfr := Lib.hid Ha.out
    have HsO := Lib.hid (Hub.out.up hxw)
    have HsW := Lib.hid (Hua.out.up hxw)
    have hlen := Hb.out.len
    have HPd := Hb
    have Hpn : Hid (partN n l true = partL (l.le) (l.mo) (setAt n.sets l.af.toNat) (setAt n.sets l.be.toNat)) := Lib.hid rfl
    have HpI := Lib.hid (shTo_fromTo (lo := l.le) (hi := l.mo) (by omega) Hb.out.fromTo)
    have HpB := Lib.hid (shTo_bd (lo := l.le) (hi := l.mo) Hb.out (by omega) (by omega) (by omega) (by omega))
    obtain ⟨O, hO⟩ : ∃ O, O = setAt n.sets l.be.toNat := ⟨_, rfl⟩
    rw [← hO] at HsO hlen HPd Hpn HpI HpB ⊢
    clear hO
    go_wp2_with fail
    obtain ⟨wa, hwa⟩ : ∃ x : World, x = w1 := ⟨_, rfl⟩
    rw [← hwa] at hxw HsO HsW ⊢
    have hza := hxw.size
    clear hwa
    have Hrow0 : Hid (RowSp (wa.alloc (.cells #[] 129)) wa.heap.size 129 (.slice (some ⟨wa.heap.size, 0, none⟩) 0 0) []) := Lib.hid (by
      have := World.ownsRow_made (base := wa.heap.size) (e := 129) (size := 2) wa #[] 0 (by simp) (Nat.zero_le _) rfl
      unfold RowSp
      simpa [cellsOf] using this)
    clear hx01 hx0
    try clear lc0 lc1 lc2 lc3 lcg
    go_wp2_with fail
    go_loopg [11, 13, 43] O.length (fun q u11 u13 i wq => ∃ (j : Nat), j + q = O.length ∧ i = .int .i64 j ∧ Hid (Ext wa wq) ∧ Hid (RowSp wq wa.heap.size 129 u11 (shTo (l.le) (l.mo) O j)) ∧ ∃ A c, u11 = .slice A j c)
    case atStart => exact ⟨0, by omega, rfl, Lib.hid (by repeat (first | exact Ext.refl _ | assumption | refine Ext.alloc ?_ _ | refine Ext.drew ?_ | refine Ext.drewN ?_ _ | refine Ext.setCell ?_ (by first | (simp; done) | (simp; omega) | omega) _ | refine Ext.trans ?_ (by assumption))), Hrow0, _, _, rfl⟩
    clear Hrow0
    case round =>
      obtain ⟨j, hj, rfl, Hx, Hrow, A11, c11, rfl⟩ := hrel
      have hx := Hx.out
      have hz := hx.size
      by_cases hlt : j < O.length
      · obtain ⟨g, og, rfl, _, hgz, s1, s2⟩ := HsO.out.at_ hlt
        have r1 := (hx.cell (p := ⟨g, og + j * 2, none⟩) hgz).trans s1
        have r2 := (hx.cell (p := ⟨g, og + j * 2 + 1, none⟩) hgz).trans s2
        have hgr : g < wr.heap.size := by omega
        obtain ⟨⟨d1, d2⟩, ⟨d3, d4⟩⟩ := HPd.out.2 j hlt
        have T0 : decide ((j : Int) < (O.length : Int)) = true := decide_eq_true (by omega)
        have T0n : decide (j < O.length) = true := decide_eq_true hlt
        have v1 : IntKind.i64.wrap ((spAt O j).fr + (l.le)) = (spAt O j).fr + (l.le) := IntWalk.i64_in _ (by omega)
        have v2 : IntKind.i64.wrap ((spAt O j).to + (l.mo)) = (spAt O j).to + (l.mo) := IntWalk.i64_in _ (by omega)
        have hsl := shTo_len (l.le) (l.mo) O j
        have Hsrc : Hid (Row ((wr.alloc (.cells #[.int .i64 (spAt O j).fr, .int .i64 (spAt O j).to] 129)).alloc (.cells #[.int .i64 ((spAt O j).fr + l.le), .int .i64 ((spAt O j).to + l.mo)] 129)) 0 ((wr.alloc (.cells #[.int .i64 (spAt O j).fr, .int .i64 (spAt O j).to] 129)).alloc (.cells #[.int .i64 ((spAt O j).fr + l.le), .int .i64 ((spAt O j).to + l.mo)] 129)).heap.size 2 (.slice (some ⟨wr.heap.size + 1, 0, none⟩) 1 1) 1 (spanCell [shS (l.le) (l.mo) (spAt O j)])) := Lib.hid (by
          have hb := Boxed.new (wr.alloc (.cells #[.int .i64 (spAt O j).fr, .int .i64 (spAt O j).to] 129)) [.int .i64 ((spAt O j).fr + l.le), .int .i64 ((spAt O j).to + l.mo)] 129
          rw [World.size_alloc] at hb
          exact hb.row rfl (span_cells _ _))
        clear s1 s2
        go_wp2_with (at_builtin; refine wpList_append_row _ rfl _ _ 42 rfl wa.heap.size 129 2 16 Try.underlying42 (by kernel_rfl) (by omega) _ j 1 _ rfl (.inl (by have := row_ext Hrow.out (show Ext wr ((wr.alloc (.cells #[.int .i64 (spAt O j).fr, .int .i64 (spAt O j).to] 129)).alloc (.cells #[.int .i64 ((spAt O j).fr + l.le), .int .i64 ((spAt O j).to + l.mo)] 129)) from (by repeat (first | exact Ext.refl _ | assumption | refine Ext.alloc ?_ _ | refine Ext.drew ?_ | refine Ext.drewN ?_ _ | refine Ext.setCell ?_ (by first | (simp; done) | (simp; omega) | omega) _ | refine Ext.trans ?_ (by assumption)))); rwa [hsl] at this)) (.inr (by omega)) 0 _ _ (spanCell [shS (l.le) (l.mo) (spAt O j)]) rfl Hsrc.out (fun i _ => spanCell_one _ i) (by unfold maxLen; omega) (by omega) (by simp; omega) ?_; intro v5 w5 hown5 hput5; have Hrow5 := Lib.hid (RowSp.push (l := shTo (l.le) (l.mo) O j) (s := shS (l.le) (l.mo) (spAt O j)) (by rw [hsl]; exact hown5)); have Hx5 := Lib.hid (hput5.ext (show Ext wa ((wr.alloc (.cells #[.int .i64 (spAt O j).fr, .int .i64 (spAt O j).to] 129)).alloc (.cells #[.int .i64 ((spAt O j).fr + l.le), .int .i64 ((spAt O j).to + l.mo)] 129)) from (by repeat (first | exact Ext.refl _ | assumption | refine Ext.alloc ?_ _ | refine Ext.drew ?_ | refine Ext.drewN ?_ _ | refine Ext.setCell ?_ (by first | (simp; done) | (simp; omega) | omega) _ | refine Ext.trans ?_ (by assumption)))) (Nat.le_refl _)); obtain ⟨A6, c6, rfl⟩ := ownsRow_len hown5; clear hown5 hput5)
        go_roundg (O.length - (j + 1))
        case measure => omega
        case rel => exact ⟨j + 1, by omega, by go_num, Hx5, Hrow5, _, _, rfl⟩
      · obtain rfl : j = O.length := by omega
        have HxF := Lib.hid (hxw.trans hx)
        have Hsp := Lib.hid (show Spans wr 0 wr.heap.size (.slice A11 O.length c11) (shTo (l.le) (l.mo) O O.length) from by
          have := RowSp.spans Hrow.out
          exact this)
        have hsl := shTo_len (l.le) (l.mo) O O.length
        have hl2 : (shTo (l.le) (l.mo) O O.length).length ≤ 1048576 := by omega
        have Hmk := Lib.hid (mkL_len (shTo (l.le) (l.mo) O O.length))
        have Hmb := Lib.hid (mkL_bd HpI.out HpB.out)
        have Hmo := Lib.hid (mkL_ok HpI.out)
        have hlo := Ha.out.len
        go_wp2_with (first
          | (go_at_call 200; go_loud (refine Calls.mono (impl_united _ _ _ Hsp.out hl2 (sp_bd HpI.out HpB.out (by omega) (by omega)) HpI.out) ?_); rintro e wu ⟨vu, rfl, hxu, hru⟩; have Hxu := Lib.hid hxu; have Hru := Lib.hid hru; clear hxu hru)
          | (go_at_call 199; go_loud (refine Calls.mono (impl_met _ _ _ _ _ ((HsW.out.up (hx.trans Hxu.out))) (RowSp.spans Hru.out) (by have := Hmk.out; omega) Ha.out.bd (sp_bd (fun i hi => (Hmo.out.1 i hi).1) Hmb.out (by omega) (by omega))) ?_); rintro e wm ⟨vm, rfl, hxm, hrm⟩; have Hxm := Lib.hid hxm; have Hrm := Lib.hid hrm; clear hxm hrm))
        go_ret
        rw [Hpn.out]
        refine ⟨_, rfl, HxF.out.trans (Hxu.out.trans Hxm.out), ownsRow_mono Hrm.out (HxF.out.trans Hxu.out).size⟩
  case' false =>
    go_wp2_with fail
    (refine wp_region_onto prog_mixed (by kernel_rfl) ?_; (repeat (go_big_quiet_step ((fail)))); refine onto_end ?_; intro w2 hx2)
    have hx12 : Ext w1 w2 := (by repeat (first | exact Ext.refl _ | assumption | refine Ext.alloc ?_ _ | refine Ext.drew ?_ | refine Ext.drewN ?_ _ | refine Ext.setCell ?_ (by first | (simp; done) | (simp; omega) | omega) _ | refine Ext.trans ?_ (by assumption)))
    have hxw := hxw.trans hx12
    clear lc0 lc1 lc2 lc3 lcg hx2 hx12
    have hfr := Lib.hid Hb.out
    have HsO := Lib.hid (Hua.out.up hxw)
    have HsW := Lib.hid (Hub.out.up hxw)
    have hlen := Ha.out.len
    have HPd := Ha
    have Hpn : Hid (partN n l false = partL (-l.mo) (-l.le) (setAt n.sets l.be.toNat) (setAt n.sets l.af.toNat)) := Lib.hid rfl
    have HpI := Lib.hid (shTo_fromTo (lo := -l.mo) (hi := -l.le) (by omega) Ha.out.fromTo)
    have HpB := Lib.hid (shTo_bd (lo := -l.mo) (hi := -l.le) Ha.out (by omega) (by omega) (by omega) (by omega))
    obtain ⟨O, hO⟩ : ∃ O, O = setAt n.sets l.af.toNat := ⟨_, rfl⟩
    rw [← hO] at HsO hlen HPd Hpn HpI HpB ⊢
    clear hO
    go_wp2_with fail
    obtain ⟨wa, hwa⟩ : ∃ x : World, x = w2 := ⟨_, rfl⟩
    rw [← hwa] at hxw HsO HsW ⊢
    have hza := hxw.size
    clear hwa
    have Hrow0 : Hid (RowSp (wa.alloc (.cells #[] 129)) wa.heap.size 129 (.slice (some ⟨wa.heap.size, 0, none⟩) 0 0) []) := Lib.hid (by
      have := World.ownsRow_made (base := wa.heap.size) (e := 129) (size := 2) wa #[] 0 (by simp) (Nat.zero_le _) rfl
      unfold RowSp
      simpa [cellsOf] using this)
    clear hx01 hx0
    try clear lc0 lc1 lc2 lc3 lcg
    go_wp2_with fail
    go_loopg [11, 13, 43] O.length (fun q u11 u13 i wq => ∃ (j : Nat), j + q = O.length ∧ i = .int .i64 j ∧ Hid (Ext wa wq) ∧ Hid (RowSp wq wa.heap.size 129 u11 (shTo (-l.mo) (-l.le) O j)) ∧ ∃ A c, u11 = .slice A j c)
    case atStart => exact ⟨0, by omega, rfl, Lib.hid (by repeat (first | exact Ext.refl _ | assumption | refine Ext.alloc ?_ _ | refine Ext.drew ?_ | refine Ext.drewN ?_ _ | refine Ext.setCell ?_ (by first | (simp; done) | (simp; omega) | omega) _ | refine Ext.trans ?_ (by assumption))), Hrow0, _, _, rfl⟩
    clear Hrow0
    case round =>
      obtain ⟨j, hj, rfl, Hx, Hrow, A11, c11, rfl⟩ := hrel
      have hx := Hx.out
      have hz := hx.size
      by_cases hlt : j < O.length
      · obtain ⟨g, og, rfl, _, hgz, s1, s2⟩ := HsO.out.at_ hlt
        have r1 := (hx.cell (p := ⟨g, og + j * 2, none⟩) hgz).trans s1
        have r2 := (hx.cell (p := ⟨g, og + j * 2 + 1, none⟩) hgz).trans s2
        have hgr : g < wr.heap.size := by omega
        obtain ⟨⟨d1, d2⟩, ⟨d3, d4⟩⟩ := HPd.out.2 j hlt
        have T0 : decide ((j : Int) < (O.length : Int)) = true := decide_eq_true (by omega)
        have T0n : decide (j < O.length) = true := decide_eq_true hlt
        have v1 : IntKind.i64.wrap ((spAt O j).fr + (-l.mo)) = (spAt O j).fr + (-l.mo) := IntWalk.i64_in _ (by omega)
        have v2 : IntKind.i64.wrap ((spAt O j).to + (-l.le)) = (spAt O j).to + (-l.le) := IntWalk.i64_in _ (by omega)
        have hsl := shTo_len (-l.mo) (-l.le) O j
        have Hsrc : Hid (Row ((wr.alloc (.cells #[.int .i64 (spAt O j).fr, .int .i64 (spAt O j).to] 129)).alloc (.cells #[.int .i64 ((spAt O j).fr + -l.mo), .int .i64 ((spAt O j).to + -l.le)] 129)) 0 ((wr.alloc (.cells #[.int .i64 (spAt O j).fr, .int .i64 (spAt O j).to] 129)).alloc (.cells #[.int .i64 ((spAt O j).fr + -l.mo), .int .i64 ((spAt O j).to + -l.le)] 129)).heap.size 2 (.slice (some ⟨wr.heap.size + 1, 0, none⟩) 1 1) 1 (spanCell [shS (-l.mo) (-l.le) (spAt O j)])) := Lib.hid (by
          have hb := Boxed.new (wr.alloc (.cells #[.int .i64 (spAt O j).fr, .int .i64 (spAt O j).to] 129)) [.int .i64 ((spAt O j).fr + -l.mo), .int .i64 ((spAt O j).to + -l.le)] 129
          rw [World.size_alloc] at hb
          exact hb.row rfl (span_cells _ _))
        clear s1 s2
        go_wp2_with (at_builtin; refine wpList_append_row _ rfl _ _ 42 rfl wa.heap.size 129 2 16 Try.underlying42 (by kernel_rfl) (by omega) _ j 1 _ rfl (.inl (by have := row_ext Hrow.out (show Ext wr ((wr.alloc (.cells #[.int .i64 (spAt O j).fr, .int .i64 (spAt O j).to] 129)).alloc (.cells #[.int .i64 ((spAt O j).fr + -l.mo), .int .i64 ((spAt O j).to + -l.le)] 129)) from (by repeat (first | exact Ext.refl _ | assumption | refine Ext.alloc ?_ _ | refine Ext.drew ?_ | refine Ext.drewN ?_ _ | refine Ext.setCell ?_ (by first | (simp; done) | (simp; omega) | omega) _ | refine Ext.trans ?_ (by assumption)))); rwa [hsl] at this)) (.inr (by omega)) 0 _ _ (spanCell [shS (-l.mo) (-l.le) (spAt O j)]) rfl Hsrc.out (fun i _ => spanCell_one _ i) (by unfold maxLen; omega) (by omega) (by simp; omega) ?_; intro v5 w5 hown5 hput5; have Hrow5 := Lib.hid (RowSp.push (l := shTo (-l.mo) (-l.le) O j) (s := shS (-l.mo) (-l.le) (spAt O j)) (by rw [hsl]; exact hown5)); have Hx5 := Lib.hid (hput5.ext (show Ext wa ((wr.alloc (.cells #[.int .i64 (spAt O j).fr, .int .i64 (spAt O j).to] 129)).alloc (.cells #[.int .i64 ((spAt O j).fr + -l.mo), .int .i64 ((spAt O j).to + -l.le)] 129)) from (by repeat (first | exact Ext.refl _ | assumption | refine Ext.alloc ?_ _ | refine Ext.drew ?_ | refine Ext.drewN ?_ _ | refine Ext.setCell ?_ (by first | (simp; done) | (simp; omega) | omega) _ | refine Ext.trans ?_ (by assumption)))) (Nat.le_refl _)); obtain ⟨A6, c6, rfl⟩ := ownsRow_len hown5; clear hown5 hput5)
        go_roundg (O.length - (j + 1))
        case measure => omega
        case rel => exact ⟨j + 1, by omega, by go_num, Hx5, Hrow5, _, _, rfl⟩
      · obtain rfl : j = O.length := by omega
        have HxF := Lib.hid (hxw.trans hx)
        have Hsp := Lib.hid (show Spans wr 0 wr.heap.size (.slice A11 O.length c11) (shTo (-l.mo) (-l.le) O O.length) from by
          have := RowSp.spans Hrow.out
          exact this)
        have hsl := shTo_len (-l.mo) (-l.le) O O.length
        have hl2 : (shTo (-l.mo) (-l.le) O O.length).length ≤ 1048576 := by omega
        have Hmk := Lib.hid (mkL_len (shTo (-l.mo) (-l.le) O O.length))
        have Hmb := Lib.hid (mkL_bd HpI.out HpB.out)
        have Hmo := Lib.hid (mkL_ok HpI.out)
        have hlo := Hb.out.len
        go_wp2_with (first
          | (go_at_call 200; go_loud (refine Calls.mono (impl_united _ _ _ Hsp.out hl2 (sp_bd HpI.out HpB.out (by omega) (by omega)) HpI.out) ?_); rintro e wu ⟨vu, rfl, hxu, hru⟩; have Hxu := Lib.hid hxu; have Hru := Lib.hid hru; clear hxu hru)
          | (go_at_call 199; go_loud (refine Calls.mono (impl_met _ _ _ _ _ ((HsW.out.up (hx.trans Hxu.out))) (RowSp.spans Hru.out) (by have := Hmk.out; omega) Hb.out.bd (sp_bd (fun i hi => (Hmo.out.1 i hi).1) Hmb.out (by omega) (by omega))) ?_); rintro e wm ⟨vm, rfl, hxm, hrm⟩; have Hxm := Lib.hid hxm; have Hrm := Lib.hid hrm; clear hxm hrm))
        go_ret
        rw [Hpn.out]
        refine ⟨_, rfl, HxF.out.trans (Hxu.out.trans Hxm.out), ownsRow_mono Hrm.out (HxF.out.trans Hxu.out).size⟩
end Go.Proofs.Ytfajmlkiidnhlaa
