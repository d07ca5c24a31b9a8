/- Texts merged: a claim holds at most sixty files. -/
import Derived.Test.YtfajmlkiidnhlaaZ34
import Derived.Deep.RegionLaw
/- Contract: l19Round. -/
namespace Go.Proofs.Ytfajmlkiidnhlaa
set_option linter.unusedVariables false
set_option linter.unusedSimpArgs false
open Go.RowKit
attribute [local go_sem] cell_onto
set_option maxRecDepth 100000 in
set_option maxHeartbeats 16000000 in
theorem spec_l19Round (s k : Value) (n : Net) (w : World) (h : NetIn w s k n) (hn : NetD n) :
    Calls Try.prog 154 #[.agg #[s, k]] w (NewNetL 60 (narR n) w) := by
  obtain ⟨As, c0, rfl, hns0, hcs0⟩ := h.1.len
  obtain ⟨Ar, c1, rfl, hnk0, hck0⟩ := h.2.len
  have Hsm := Lib.hid hn.small
  have Hd := Lib.hid hn
  have H := Lib.hid h
  have h20 := hn.nl
  clear h hn
  obtain ⟨w0, hw0⟩ : ∃ x : World, x = (w.alloc (.cells #[.slice As n.sets.length c0, .slice Ar n.links.length c1] 27)).alloc (.cells #[.slice none 0 0, .slice none 0 0] 27) := ⟨_, rfl⟩
  have hz0 : w0.heap.size = w.heap.size + 1 + 1 := by rw [hw0]; simp
  have Hx0 : Hid (Ext w w0) := Lib.hid (by rw [hw0]; exact (by repeat (first | exact Ext.refl _ | assumption | refine Ext.alloc ?_ _ | refine Ext.drew ?_ | refine Ext.drewN ?_ _ | refine Ext.setCell ?_ (by first | (simp; done) | (simp; omega) | omega) _ | refine Ext.trans ?_ (by assumption))))
  have Hnb : Hid (Boxed w0 w.heap.size [.slice As n.sets.length c0, .slice Ar n.links.length c1]) := Lib.hid (by
    rw [hw0]
    exact (Boxed.new w [.slice As n.sets.length c0, .slice Ar n.links.length c1] 27).ext ((Ext.refl _).alloc _))
  have Hrb : Hid (Boxed w0 (w.heap.size + 1) [.slice none 0 0, .slice none 0 0]) := Lib.hid (by
    have := Boxed.new (w.alloc (.cells #[.slice As n.sets.length c0, .slice Ar n.links.length c1] 27)) [.slice none 0 0, .slice none 0 0] 27
    rw [World.size_alloc] at this
    rw [hw0]
    exact this)
  have Hw0 := Lib.hid hw0
  clear hw0
  go_enter Try.func154, Try.ntmps154
  go_wp2_with fail
  rw [← Hw0.out]
  refine Calls.mono (spec_l18Own _ _ n _ (H.out.up Hx0.out) Hsm.out) ?_
  rintro e w3 hnew
  obtain ⟨so, ko, a, b, rfl, hx3, hS3⟩ := NetS.of hnew
  obtain ⟨Ao, co, rfl, hns3, hcs3⟩ := hS3.netIn.1.len
  obtain ⟨Aq, cq, rfl, hnk3, hck3⟩ := hS3.netIn.2.len
  have hz3 := hx3.size
  have hxb : Ext w3 (w3.alloc (.cells #[.slice Ao n.sets.length co, .slice Aq n.links.length cq] 27)) := (by repeat (first | exact Ext.refl _ | assumption | refine Ext.alloc ?_ _ | refine Ext.drew ?_ | refine Ext.drewN ?_ _ | refine Ext.setCell ?_ (by first | (simp; done) | (simp; omega) | omega) _ | refine Ext.trans ?_ (by assumption)))
  have hbo := Boxed.new w3 [.slice Ao n.sets.length co, .slice Aq n.links.length cq] 27
  have Hst := Lib.hid (show ∃ (a b : Nat) (s' k' : Value), Ext w (w3.alloc (.cells #[.slice Ao n.sets.length co, .slice Aq n.links.length cq] 27)) ∧ Boxed (w3.alloc (.cells #[.slice Ao n.sets.length co, .slice Aq n.links.length cq] 27)) w.heap.size [.slice As n.sets.length c0, .slice Ar n.links.length c1] ∧ Boxed (w3.alloc (.cells #[.slice Ao n.sets.length co, .slice Aq n.links.length cq] 27)) (w.heap.size + 1) [.slice none 0 0, .slice none 0 0] ∧ Boxed (w3.alloc (.cells #[.slice Ao n.sets.length co, .slice Aq n.links.length cq] 27)) w3.heap.size [s', k'] ∧ NetS 60 (w3.alloc (.cells #[.slice Ao n.sets.length co, .slice Aq n.links.length cq] 27)) w0.heap.size a b s' k' (narTo n n.links 0) from
    ⟨a, b, _, _, (Hx0.out.trans hx3).trans hxb, (Hnb.out.ext hx3).ext hxb, (Hrb.out.ext hx3).ext hxb, hbo, hS3.ext hxb⟩)
  clear hx3 hS3 hxb hbo hnew Hnb Hrb Hw0
  go_wp2_with fail
  go_loopg [4] n.links.length (fun q i wr => ∃ (j : Nat), j + q = n.links.length ∧ i = .int .i64 j ∧ Hid (∃ (a b : Nat) (s' k' : Value), Ext w wr ∧ Boxed wr w.heap.size [.slice As n.sets.length c0, .slice Ar n.links.length c1] ∧ Boxed wr (w.heap.size + 1) [.slice none 0 0, .slice none 0 0] ∧ Boxed wr w3.heap.size [s', k'] ∧ NetS 60 wr w0.heap.size a b s' k' (narTo n n.links j)))
  case atStart => exact ⟨0, by omega, rfl, Hst⟩
  clear Hst
  case round =>
    obtain ⟨j, hj, rfl, Hst⟩ := hrel
    obtain ⟨a', b', s', k', hx, hnb, hrb, hob, hS⟩ := Hst.out
    have HS := Lib.hid hS
    have Hrb := Lib.hid hrb
    have nb := hnb; have nb0 := nb.at0; have nb1 := nb.at1; have nbg := nb.1; have Hnb := Lib.hid nb; clear nb
    have ob := hob; have ob0 := ob.at0; have ob1 := ob.at1; have obg := ob.1; have Hob := Lib.hid ob; clear ob
    clear hnb hob hS hrb Hst
    by_cases hlt : j < n.links.length
    · have hok := narTo_ok Hd.out Hd.out.lks j (by omega)
      have Hok := Lib.hid hok
      obtain ⟨bl, off, rfl, _, hbl, q1, q2, q3, q4⟩ := (H.out.2.ext hx (Nat.le_refl _)).at_ hlt
      have hbr : bl < wr.heap.size := Nat.lt_of_lt_of_le hbl hx.size
      have Hlk := Lib.hid (show LkOk (lkAt n.links j) (narTo n n.links j).sets.length from by rw [hok.2.ns]; exact Hd.out.lks j hlt)
      clear hok
      go_wp2_with fail
      go_region_law (first
        | (go_simp; go_at_call 149; refine Calls.mono (spec_l19Link s' k' (narTo n n.links j) (lkAt n.links j) _ (HS.out.netIn.up (by repeat (first | exact Ext.refl _ | assumption | refine Ext.alloc ?_ _ | refine Ext.drew ?_ | refine Ext.drewN ?_ _ | refine Ext.setCell ?_ (by first | (simp; done) | (simp; omega) | omega) _ | refine Ext.trans ?_ (by assumption)))) Hok.out.1 Hlk.out) ?_; rintro e w4 hnew4; obtain ⟨s4, k4, a4, b4, rfl, hx4, hS4⟩ := NetS.of hnew4; obtain ⟨A4, c4, rfl, _, _⟩ := hS4.netIn.1.len; obtain ⟨A5, c5, rfl, _, _⟩ := hS4.netIn.2.len; have hS5 : NetS 60 w4 wr.heap.size a4 b4 (.slice A4 (narTo n n.links (j + 1)).sets.length c4) (.slice A5 (narTo n n.links (j + 1)).links.length c5) (narTo n n.links (j + 1)) := hS4.mono (by first | exact Nat.le_refl _ | simp); have hxw : Ext wr w4 := (by repeat (first | exact Ext.refl _ | assumption | refine Ext.alloc ?_ _ | refine Ext.drew ?_ | refine Ext.drewN ?_ _ | refine Ext.setCell ?_ (by first | (simp; done) | (simp; omega) | omega) _ | refine Ext.trans ?_ (by assumption))); have HS5 := Lib.hid hS5; have xb := Hob.out.ext hxw; have xb0 := xb.at0; have xb1 := xb.at1; have xbg := xb.1; have Hxb := Lib.hid xb; clear xb; have xf0 := Hxb.out.fz 0 (by simp); have xf1 := Hxb.out.fz 1 (by simp); clear hx4 hS4 hS5 hnew4))
      all_goals
        have hz4 := hxw.size
        have hx4 := hx.trans hxw
        have hO : Off (fun k => k = w3.heap.size) w4 ((w4.setCell ⟨w3.heap.size, 0, none⟩ (.slice A4 (narTo n n.links (j + 1)).sets.length c4)).setCell ⟨w3.heap.size, 1, none⟩ (.slice A5 (narTo n n.links (j + 1)).links.length c5)) :=
          Off.setCell (S := fun k => k = w3.heap.size) (p := ⟨w3.heap.size, 1, none⟩) (Off.setCell (S := fun k => k = w3.heap.size) (p := ⟨w3.heap.size, 0, none⟩) (Off.refl _ _) (.inl rfl) _) (.inl rfl) _
        have Hfin := Lib.hid (show ∃ (a b : Nat) (s' k' : Value), Ext w ((w4.setCell ⟨w3.heap.size, 0, none⟩ (.slice A4 (narTo n n.links (j + 1)).sets.length c4)).setCell ⟨w3.heap.size, 1, none⟩ (.slice A5 (narTo n n.links (j + 1)).links.length c5)) ∧ Boxed ((w4.setCell ⟨w3.heap.size, 0, none⟩ (.slice A4 (narTo n n.links (j + 1)).sets.length c4)).setCell ⟨w3.heap.size, 1, none⟩ (.slice A5 (narTo n n.links (j + 1)).links.length c5)) w.heap.size [.slice As n.sets.length c0, .slice (some ⟨bl, off, none⟩) n.links.length c1] ∧ Boxed ((w4.setCell ⟨w3.heap.size, 0, none⟩ (.slice A4 (narTo n n.links (j + 1)).sets.length c4)).setCell ⟨w3.heap.size, 1, none⟩ (.slice A5 (narTo n n.links (j + 1)).links.length c5)) (w.heap.size + 1) [.slice none 0 0, .slice none 0 0] ∧ Boxed ((w4.setCell ⟨w3.heap.size, 0, none⟩ (.slice A4 (narTo n n.links (j + 1)).sets.length c4)).setCell ⟨w3.heap.size, 1, none⟩ (.slice A5 (narTo n n.links (j + 1)).links.length c5)) w3.heap.size [s', k'] ∧ NetS 60 ((w4.setCell ⟨w3.heap.size, 0, none⟩ (.slice A4 (narTo n n.links (j + 1)).sets.length c4)).setCell ⟨w3.heap.size, 1, none⟩ (.slice A5 (narTo n n.links (j + 1)).links.length c5)) w0.heap.size a b s' k' (narTo n n.links (j + 1)) from
          ⟨a4, b4, _, _, hx4.off hO (fun k hk hh => by omega), (Hnb.out.ext hxw).off hO (by omega), (Hrb.out.ext hxw).off hO (by omega), (Hxb.out.set 0 _ (by simp)).set 1 _ (by simp),
            (HS5.out.mono (by have := Hob.out.1; omega)).off hO (fun x hx => .inl ⟨by have := HS5.out.la; have := Hob.out.1; omega, fun hh => by have := (HS5.out.links.lt _ hh).1; have := Hob.out.1; omega⟩)⟩)
        clear hO hx4 hxw
        go_wp2_with fail
        go_roundg (n.links.length - (j + 1))
        case measure => omega
        case rel => exact ⟨j + 1, by omega, by go_num, Hfin⟩
    · obtain rfl : j = n.links.length := by omega
      obtain ⟨A4, c4, rfl, _, _⟩ := HS.out.netIn.1.len
      obtain ⟨A5, c5, rfl, _, _⟩ := HS.out.netIn.2.len
      have rb := Hrb.out; have rb0 := rb.at0; have rb1 := rb.at1; have rbg := rb.1; have Hrb := Lib.hid rb; clear rb
      have rf0 := Hrb.out.fz 0 (by simp)
      have rf1 := Hrb.out.fz 1 (by simp)
      go_wp2_with fail
      refine bodyPost_ret (v := .agg #[.slice A4 (narTo n n.links n.links.length).sets.length c4, .slice A5 (narTo n n.links n.links.length).links.length c5]) (by simp [results, Try.results154, go_sem, *]) rfl ?_
      have hO : Off (fun k => k = w.heap.size + 1) wr ((wr.setCell ⟨w.heap.size + 1, 0, none⟩ (.slice A4 (narTo n n.links n.links.length).sets.length c4)).setCell ⟨w.heap.size + 1, 1, none⟩ (.slice A5 (narTo n n.links n.links.length).links.length c5)) :=
        Off.setCell (S := fun k => k = w.heap.size + 1) (p := ⟨w.heap.size + 1, 1, none⟩) (Off.setCell (S := fun k => k = w.heap.size + 1) (p := ⟨w.heap.size + 1, 0, none⟩) (Off.refl _ _) (.inl rfl) _) (.inl rfl) _
      refine NetS.to (hx.off hO (fun k hk hh => by omega)) ((HS.out.mono (by omega)).off hO (fun x hx => .inl ⟨by have := HS.out.la; omega, fun hh => ?_⟩))
      have := (HS.out.links.lt _ hh).1
      omega
end Go.Proofs.Ytfajmlkiidnhlaa
