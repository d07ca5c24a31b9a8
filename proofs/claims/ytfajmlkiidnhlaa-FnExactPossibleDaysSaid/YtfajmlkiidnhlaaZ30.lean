/- Texts merged: a claim holds at most sixty files. -/
import Derived.Test.YtfajmlkiidnhlaaZ29
import Derived.Test.YtfajmlkiidnhlaaZ14
import Derived.Deep.RegionHeld3
/- Contracts: checkLink, limited, PartnerDays, and the reference's. -/
namespace Go.Proofs.Ytfajmlkiidnhlaa
set_option linter.unusedVariables false
set_option linter.unusedSimpArgs false
open Go.RowKit
attribute [local go_sem] cell_onto

/-- two results: spans of the call's own, and a code -/
def NewSps2 (l : List Sp) (e0 : Int) (w : World) (e : Ending) (w' : World) : Prop :=
  ∃ v g, e = .returned (.tuple #[v, .int .i64 e0]) ∧ Ext w w' ∧ (0 < l.length → w.heap.size ≤ g) ∧ Own w' g 2 v l.length (spanCell l)
theorem NewSps2.nil (e0 : Int) {w w' : World} (h : Ext w w') : NewSps2 [] e0 w (.returned (.tuple #[.slice none 0 0, .int .i64 e0])) w' :=
  ⟨_, 0, rfl, h, fun h => absurd h (by simp), Nat.zero_le _, none, 0, rfl, Nat.le_refl _, fun h => absurd h (by simp)⟩
theorem NewSps2.of {T : TypeId} {l : List Sp} {e0 : Int} {w w' : World} {v : Value} (h : Ext w w') (hr : w'.ownsRow w.heap.size T 2 v l.length (cellsOf (l.length * 2) (spanCell l))) : NewSps2 l e0 w (.returned (.tuple #[v, .int .i64 e0])) w' := by
  obtain ⟨g, hg, ho⟩ := Own.of_owned hr
  exact ⟨v, g, rfl, h, fun hn => (hg hn).2, ho⟩
noncomputable def lnkE (n : Net) (i : Int) : Int := bif B (NetOk n) then (bif B (0 ≤ i ∧ i ≤ (n.links.length : Int) - 1) then 0 else 2) else 1
theorem lnk_net {n : Net} {i : Int} (h : ¬ NetOk n) : lnkE n i = 1 := by unfold lnkE; rw [B_false h]; rfl
theorem lnk_no {n : Net} {i : Int} (h : NetOk n) (h2 : ¬ (0 ≤ i ∧ i ≤ (n.links.length : Int) - 1)) : lnkE n i = 2 := by unfold lnkE; rw [B_true h, B_false h2]; rfl
theorem lnk_ok {n : Net} {i : Int} (h : NetOk n) (h2 : 0 ≤ i ∧ i ≤ (n.links.length : Int) - 1) : lnkE n i = 0 := by unfold lnkE; rw [B_true h, B_true h2]; rfl
theorem lnk_zero {n : Net} {i : Int} (h : lnkE n i = 0) : NetOk n ∧ 0 ≤ i ∧ i ≤ (n.links.length : Int) - 1 := by
  by_cases h1 : NetOk n
  · by_cases h2 : 0 ≤ i ∧ i ≤ (n.links.length : Int) - 1
    · exact ⟨h1, h2⟩
    · rw [lnk_no h1 h2] at h; omega
  · rw [lnk_net h1] at h; omega
noncomputable def pdE (n : Net) (i : Int) (o : Bool) : Int := bif B (lnkE n i = 0) then (bif B ((partN n (lkAt n.links i.toNat) o).length ≤ 300) then 0 else 3) else lnkE n i
noncomputable def pdL (n : Net) (i : Int) (o : Bool) : List Sp := bif B (pdE n i o = 0) then partN n (lkAt n.links i.toNat) o else []
theorem pd_no {n : Net} {i : Int} {o : Bool} (h : lnkE n i ≠ 0) : pdE n i o = lnkE n i ∧ pdL n i o = [] := by
  have e : pdE n i o = lnkE n i := by unfold pdE; rw [B_false h]; rfl
  exact ⟨e, by unfold pdL; rw [B_false (by rw [e]; exact h)]; rfl⟩
theorem pd_big {n : Net} {i : Int} {o : Bool} (h : lnkE n i = 0) (h2 : ¬ (partN n (lkAt n.links i.toNat) o).length ≤ 300) : pdE n i o = 3 ∧ pdL n i o = [] := by
  have e : pdE n i o = 3 := by unfold pdE; rw [B_true h, B_false h2]; rfl
  exact ⟨e, by unfold pdL; rw [B_false (by rw [e]; omega)]; rfl⟩
theorem pd_ok {n : Net} {i : Int} {o : Bool} (h : lnkE n i = 0) (h2 : (partN n (lkAt n.links i.toNat) o).length ≤ 300) : pdE n i o = 0 ∧ pdL n i o = partN n (lkAt n.links i.toNat) o := by
  have e : pdE n i o = 0 := by unfold pdE; rw [B_true h, B_true h2]; rfl
  exact ⟨e, by unfold pdL; rw [B_true e]; rfl⟩
theorem partN_ok {n : Net} {l : Lk} {o : Bool} (h : PartIn n l) : SetD (partN n l o) := by
  have hbe := h.be
  have haf := h.af
  have h1 := h.sets l.be.toNat (by omega)
  have h2 := h.sets l.af.toNat (by omega)
  have h3 := h.lm
  cases o
  · exact (partL_ok (lo := -l.mo) (hi := -l.le) h1 h2.fromTo (by omega)).1
  · exact (partL_ok (lo := l.le) (hi := l.mo) h2 h1.fromTo (by omega)).1
theorem pdL_small (n : Net) (i : Int) (o : Bool) : (pdL n i o).length ≤ 1048576 := by
  by_cases h : lnkE n i = 0
  · by_cases h2 : (partN n (lkAt n.links i.toNat) o).length ≤ 300
    · rw [(pd_ok h h2).2]; omega
    · rw [(pd_big h h2).2]; simp
  · rw [(pd_no h).2]; simp
set_option maxHeartbeats 4000000 in
theorem impl_checkLink (s k : Value) (n : Net) (i : Int) (w : World) (h : NetIn w s k n) : Calls Try.prog 140 #[.agg #[s, k], .int .i64 i] w (RetX (.int .i64 (lnkE n i)) w) := by
  obtain ⟨As, cs, rfl, hns, hcs⟩ := h.1.len
  obtain ⟨Ak, ck, rfl, hnk, hck⟩ := h.2.len
  have H := Lib.hid h
  clear h
  go_enter Try.func140, Try.ntmps140
  go_wp2_with fail
  refine Calls.mono (impl_IsNetwork _ _ n _ (H.out.up (by repeat (first | exact Ext.refl _ | assumption | refine Ext.alloc ?_ _ | refine Ext.drew ?_ | refine Ext.drewN ?_ _ | refine Ext.setCell ?_ (by first | (simp; done) | (simp; omega) | omega) _ | refine Ext.trans ?_ (by assumption))))) ?_
  rintro e w1 ⟨rfl, hx1⟩
  have hx : Ext w w1 := (by repeat (first | exact Ext.refl _ | assumption | refine Ext.alloc ?_ _ | refine Ext.drew ?_ | refine Ext.drewN ?_ _ | refine Ext.setCell ?_ (by first | (simp; done) | (simp; omega) | omega) _ | refine Ext.trans ?_ (by assumption)))
  have hb := (Boxed.new w [.slice As n.sets.length cs, .slice Ak n.links.length ck] 27).ext hx1; have hb0 := hb.at0; have hb1 := hb.at1; have hbg := hb.1; have Hhb := Lib.hid hb; clear hb
  by_cases hok : NetOk n
  · have Hok := Lib.hid hok
    have h20 := hok.2.1
    rw [B_true hok]
    clear hok
    go_wp2_with fail
    refine Calls.mono (impl_within i 0 ((n.links.length : Int) - 1) _) ?_
    rintro e w' ⟨rfl, rfl⟩
    by_cases hv : 0 ≤ i ∧ i ≤ (n.links.length : Int) - 1
    · rw [B_true hv]
      have Hl := Lib.hid (lnk_ok Hok.out hv)
      clear hv
      go_wp2_with fail
      go_ret
      exact ⟨by rw [Hl.out]; rfl, hx⟩
    · rw [B_false hv]
      have Hl := Lib.hid (lnk_no Hok.out hv)
      clear hv
      go_wp2_with fail
      go_ret
      exact ⟨by rw [Hl.out]; rfl, hx⟩
  · have Hl := Lib.hid (lnk_net (i := i) hok)
    rw [B_false hok]
    clear hok
    go_wp2_with fail
    go_ret
    exact ⟨by rw [Hl.out]; rfl, hx⟩
set_option maxHeartbeats 4000000 in
theorem spec_l19Code (s k : Value) (n : Net) (i : Int) (w : World) (h : NetIn w s k n) : Calls Try.prog 143 #[.agg #[s, k], .int .i64 i] w (RetX (.int .i64 (lnkE n i)) w) := by
  obtain ⟨As, cs, rfl, hns, hcs⟩ := h.1.len
  obtain ⟨Ak, ck, rfl, hnk, hck⟩ := h.2.len
  have H := Lib.hid h
  clear h
  go_enter Try.func143, Try.ntmps143
  go_wp2_with fail
  refine Calls.mono (spec_IsNetwork _ _ n _ (H.out.up (by repeat (first | exact Ext.refl _ | assumption | refine Ext.alloc ?_ _ | refine Ext.drew ?_ | refine Ext.drewN ?_ _ | refine Ext.setCell ?_ (by first | (simp; done) | (simp; omega) | omega) _ | refine Ext.trans ?_ (by assumption))))) ?_
  rintro e w1 ⟨rfl, hx1⟩
  have hx : Ext w w1 := (by repeat (first | exact Ext.refl _ | assumption | refine Ext.alloc ?_ _ | refine Ext.drew ?_ | refine Ext.drewN ?_ _ | refine Ext.setCell ?_ (by first | (simp; done) | (simp; omega) | omega) _ | refine Ext.trans ?_ (by assumption)))
  have hb := (Boxed.new w [.slice As n.sets.length cs, .slice Ak n.links.length ck] 27).ext hx1; have hb0 := hb.at0; have hb1 := hb.at1; have hbg := hb.1; have Hhb := Lib.hid hb; clear hb
  by_cases hok : NetOk n
  · have Hok := Lib.hid hok
    have h20 := hok.2.1
    rw [B_true hok]
    clear hok
    go_wp2_with fail
    refine Calls.mono (spec_l01In i 0 ((n.links.length : Int) - 1) _) ?_
    rintro e w' ⟨rfl, rfl⟩
    by_cases hv : 0 ≤ i ∧ i ≤ (n.links.length : Int) - 1
    · rw [B_true hv]
      have Hl := Lib.hid (lnk_ok Hok.out hv)
      clear hv
      go_wp2_with fail
      go_ret
      exact ⟨by rw [Hl.out]; rfl, hx⟩
    · rw [B_false hv]
      have Hl := Lib.hid (lnk_no Hok.out hv)
      clear hv
      go_wp2_with fail
      go_ret
      exact ⟨by rw [Hl.out]; rfl, hx⟩
  · have Hl := Lib.hid (lnk_net (i := i) hok)
    rw [B_false hok]
    clear hok
    go_wp2_with fail
    go_ret
    exact ⟨by rw [Hl.out]; rfl, hx⟩
theorem impl_limited_yes (A : Option Addr) (m c : Nat) (w : World) (h : m ≤ 300) : Calls Try.prog 141 #[.slice A m c] w (RetS (.tuple #[.slice A m c, .int .i64 0]) w) := by
  have T1 : decide ((300 : Int) < (m : Int)) = false := decide_eq_false (by omega)
  have T2 : decide (300 < m) = false := decide_eq_false (by omega)
  go_enter Try.func141, Try.ntmps141
  go_wp2_with fail
  go_ret2
  exact ⟨rfl, rfl⟩
theorem impl_limited_no (A : Option Addr) (m c : Nat) (w : World) (hm : m ≤ 9223372036854775807) (h : ¬ m ≤ 300) : Calls Try.prog 141 #[.slice A m c] w (RetS (.tuple #[.slice none 0 0, .int .i64 3]) w) := by
  have T1 : decide ((300 : Int) < (m : Int)) = true := decide_eq_true (by omega)
  have T2 : decide (300 < m) = true := decide_eq_true (by omega)
  go_enter Try.func141, Try.ntmps141
  go_wp2_with fail
  go_ret2
  exact ⟨rfl, rfl⟩
theorem spec_l02Result_yes (A : Option Addr) (m c : Nat) (w : World) (h : m ≤ 300) : Calls Try.prog 144 #[.slice A m c] w (RetS (.tuple #[.slice A m c, .int .i64 0]) w) := by
  have T1 : decide ((300 : Int) < (m : Int)) = false := decide_eq_false (by omega)
  have T2 : decide (300 < m) = false := decide_eq_false (by omega)
  go_enter Try.func144, Try.ntmps144
  go_wp2_with fail
  go_ret2
  exact ⟨rfl, rfl⟩
theorem spec_l02Result_no (A : Option Addr) (m c : Nat) (w : World) (hm : m ≤ 9223372036854775807) (h : ¬ m ≤ 300) : Calls Try.prog 144 #[.slice A m c] w (RetS (.tuple #[.slice none 0 0, .int .i64 3]) w) := by
  have T1 : decide ((300 : Int) < (m : Int)) = true := decide_eq_true (by omega)
  have T2 : decide (300 < m) = true := decide_eq_true (by omega)
  go_enter Try.func144, Try.ntmps144
  go_wp2_with fail
  go_ret2
  exact ⟨rfl, rfl⟩
set_option maxRecDepth 100000 in
set_option maxHeartbeats 8000000 in
theorem impl_PartnerDays (s k : Value) (n : Net) (i : Int) (o : Bool) (w : World) (h : NetIn w s k n) : Calls Try.prog 46 #[.agg #[s, k], .int .i64 i, .bool o] w (NewSps2 (pdL n i o) (pdE n i o) w) := by
  obtain ⟨As, cs, rfl, hns, hcs⟩ := h.1.len
  obtain ⟨Ak, ck, rfl, hnk, hck⟩ := h.2.len
  have H := Lib.hid h
  clear h
  go_enter Try.func46, Try.ntmps46
  go_wp2_with fail
  refine Calls.mono (impl_checkLink _ _ n i _ (H.out.up (by repeat (first | exact Ext.refl _ | assumption | refine Ext.alloc ?_ _ | refine Ext.drew ?_ | refine Ext.drewN ?_ _ | refine Ext.setCell ?_ (by first | (simp; done) | (simp; omega) | omega) _ | refine Ext.trans ?_ (by assumption))))) ?_
  rintro e w1 ⟨rfl, hx1⟩
  have hx : Ext w w1 := (by repeat (first | exact Ext.refl _ | assumption | refine Ext.alloc ?_ _ | refine Ext.drew ?_ | refine Ext.drewN ?_ _ | refine Ext.setCell ?_ (by first | (simp; done) | (simp; omega) | omega) _ | refine Ext.trans ?_ (by assumption)))
  have hb := (Boxed.new w [.slice As n.sets.length cs, .slice Ak n.links.length ck] 27).ext hx1; have hb0 := hb.at0; have hb1 := hb.at1; have hbg := hb.1; have Hhb := Lib.hid hb; clear hb
  clear hx1
  by_cases h0 : lnkE n i = 0
  · have H0 := Lib.hid h0
    have Hz := Lib.hid (lnk_zero h0)
    rw [h0]
    clear h0
    obtain ⟨i1, i2⟩ := Hz.out.2
    have h20 := Hz.out.1.2.1
    have hil : i.toNat < n.links.length := by omega
    have hiN : i < (n.links.length : Int) := by omega
    obtain ⟨b, off, rfl, _, hb, c1, c2, c3, c4⟩ := (H.out.2.ext hx (Nat.le_refl _)).at_ hil
    have Hlk := Lib.hid (Hz.out.1.2.2.2 i.toNat hil)
    have Hpi : Hid (PartIn n (lkAt n.links i.toNat)) := Lib.hid (by
      obtain ⟨⟨x1, x2⟩, ⟨x3, x4⟩, _, x5, x6, x7⟩ := Hlk.out
      exact ⟨⟨x1, by omega⟩, ⟨x3, by omega⟩, x5, x6, x7, fun j hj => (Hz.out.1.2.2.1 j hj).d⟩)
    have hbr : b < w1.heap.size := by have := hx.size; omega
    have Hsd := Lib.hid (partN_ok (o := o) Hpi.out)
    have hpl := Hsd.out.len
    have Hn1 := Lib.hid (fun h3 => pd_ok (o := o) H0.out h3)
    have Hn2 := Lib.hid (fun h3 => pd_big (o := o) H0.out h3)
    generalize hlk : lkAt n.links i.toNat = lk at *
    by_cases h3 : (partN n lk o).length ≤ 300
    · go_wp2_with fail
      go_region_held3 (fun w' => w'.cell? ⟨w.heap.size, 0, none⟩ = some (.slice As n.sets.length cs) ∧ w'.cell? ⟨w.heap.size, 1, none⟩ = some (.slice (some ⟨b, off, none⟩) n.links.length ck) ∧ w'.cell? ⟨b, off + i.toNat * 4, none⟩ = some (.int .i64 lk.be) ∧ w'.cell? ⟨b, off + i.toNat * 4 + 1, none⟩ = some (.int .i64 lk.af) ∧ w'.cell? ⟨b, off + i.toNat * 4 + 2, none⟩ = some (.int .i64 lk.le) ∧ w'.cell? ⟨b, off + i.toNat * 4 + 3, none⟩ = some (.int .i64 lk.mo) ∧ Ext w1 w')
        (exact Ext.and_cell hbg hb0 (by repeat (first | exact Ext.refl _ | assumption | refine Ext.alloc ?_ _ | refine Ext.drew ?_ | refine Ext.drewN ?_ _ | refine Ext.setCell ?_ (by first | (simp; done) | (simp; omega) | omega) _ | refine Ext.trans ?_ (by assumption))) (Ext.and_cell hbg hb1 (by repeat (first | exact Ext.refl _ | assumption | refine Ext.alloc ?_ _ | refine Ext.drew ?_ | refine Ext.drewN ?_ _ | refine Ext.setCell ?_ (by first | (simp; done) | (simp; omega) | omega) _ | refine Ext.trans ?_ (by assumption))) (Ext.and_cell hbr c1 (by repeat (first | exact Ext.refl _ | assumption | refine Ext.alloc ?_ _ | refine Ext.drew ?_ | refine Ext.drewN ?_ _ | refine Ext.setCell ?_ (by first | (simp; done) | (simp; omega) | omega) _ | refine Ext.trans ?_ (by assumption))) (Ext.and_cell hbr c2 (by repeat (first | exact Ext.refl _ | assumption | refine Ext.alloc ?_ _ | refine Ext.drew ?_ | refine Ext.drewN ?_ _ | refine Ext.setCell ?_ (by first | (simp; done) | (simp; omega) | omega) _ | refine Ext.trans ?_ (by assumption))) (Ext.and_cell hbr c3 (by repeat (first | exact Ext.refl _ | assumption | refine Ext.alloc ?_ _ | refine Ext.drew ?_ | refine Ext.drewN ?_ _ | refine Ext.setCell ?_ (by first | (simp; done) | (simp; omega) | omega) _ | refine Ext.trans ?_ (by assumption))) (Ext.and_cell hbr c4 (by repeat (first | exact Ext.refl _ | assumption | refine Ext.alloc ?_ _ | refine Ext.drew ?_ | refine Ext.drewN ?_ _ | refine Ext.setCell ?_ (by first | (simp; done) | (simp; omega) | omega) _ | refine Ext.trans ?_ (by assumption))) (by repeat (first | exact Ext.refl _ | assumption | refine Ext.alloc ?_ _ | refine Ext.drew ?_ | refine Ext.drewN ?_ _ | refine Ext.setCell ?_ (by first | (simp; done) | (simp; omega) | omega) _ | refine Ext.trans ?_ (by assumption)))))))))
        ((first
          | (go_at_call 142; refine Calls.mono (impl_partnerDays _ _ n lk o _ (H.out.up (by repeat (first | exact Ext.refl _ | assumption | refine Ext.alloc ?_ _ | refine Ext.drew ?_ | refine Ext.drewN ?_ _ | refine Ext.setCell ?_ (by first | (simp; done) | (simp; omega) | omega) _ | refine Ext.trans ?_ (by assumption)))) Hpi.out) ?_; rintro e wp ⟨vp, rfl, hxp, hrp⟩; obtain ⟨Ap, cp, rfl⟩ := ownsRow_len hrp)
          | (go_at_call 141; refine Calls.mono (impl_limited_yes _ _ _ _ h3) ?_; rintro e wq ⟨rfl, rfl⟩)))
      go_wp2_with fail
      go_ret2
      rw [(Hn1.out h3).1, (Hn1.out h3).2]
      exact NewSps2.of (hx.trans (show Ext w1 wp from (by repeat (first | exact Ext.refl _ | assumption | refine Ext.alloc ?_ _ | refine Ext.drew ?_ | refine Ext.drewN ?_ _ | refine Ext.setCell ?_ (by first | (simp; done) | (simp; omega) | omega) _ | refine Ext.trans ?_ (by assumption))))) (ownsRow_mono hrp hx.size)
    · go_wp2_with fail
      go_region_held3 (fun w' => w'.cell? ⟨w.heap.size, 0, none⟩ = some (.slice As n.sets.length cs) ∧ w'.cell? ⟨w.heap.size, 1, none⟩ = some (.slice (some ⟨b, off, none⟩) n.links.length ck) ∧ w'.cell? ⟨b, off + i.toNat * 4, none⟩ = some (.int .i64 lk.be) ∧ w'.cell? ⟨b, off + i.toNat * 4 + 1, none⟩ = some (.int .i64 lk.af) ∧ w'.cell? ⟨b, off + i.toNat * 4 + 2, none⟩ = some (.int .i64 lk.le) ∧ w'.cell? ⟨b, off + i.toNat * 4 + 3, none⟩ = some (.int .i64 lk.mo) ∧ Ext w1 w')
        (exact Ext.and_cell hbg hb0 (by repeat (first | exact Ext.refl _ | assumption | refine Ext.alloc ?_ _ | refine Ext.drew ?_ | refine Ext.drewN ?_ _ | refine Ext.setCell ?_ (by first | (simp; done) | (simp; omega) | omega) _ | refine Ext.trans ?_ (by assumption))) (Ext.and_cell hbg hb1 (by repeat (first | exact Ext.refl _ | assumption | refine Ext.alloc ?_ _ | refine Ext.drew ?_ | refine Ext.drewN ?_ _ | refine Ext.setCell ?_ (by first | (simp; done) | (simp; omega) | omega) _ | refine Ext.trans ?_ (by assumption))) (Ext.and_cell hbr c1 (by repeat (first | exact Ext.refl _ | assumption | refine Ext.alloc ?_ _ | refine Ext.drew ?_ | refine Ext.drewN ?_ _ | refine Ext.setCell ?_ (by first | (simp; done) | (simp; omega) | omega) _ | refine Ext.trans ?_ (by assumption))) (Ext.and_cell hbr c2 (by repeat (first | exact Ext.refl _ | assumption | refine Ext.alloc ?_ _ | refine Ext.drew ?_ | refine Ext.drewN ?_ _ | refine Ext.setCell ?_ (by first | (simp; done) | (simp; omega) | omega) _ | refine Ext.trans ?_ (by assumption))) (Ext.and_cell hbr c3 (by repeat (first | exact Ext.refl _ | assumption | refine Ext.alloc ?_ _ | refine Ext.drew ?_ | refine Ext.drewN ?_ _ | refine Ext.setCell ?_ (by first | (simp; done) | (simp; omega) | omega) _ | refine Ext.trans ?_ (by assumption))) (Ext.and_cell hbr c4 (by repeat (first | exact Ext.refl _ | assumption | refine Ext.alloc ?_ _ | refine Ext.drew ?_ | refine Ext.drewN ?_ _ | refine Ext.setCell ?_ (by first | (simp; done) | (simp; omega) | omega) _ | refine Ext.trans ?_ (by assumption))) (by repeat (first | exact Ext.refl _ | assumption | refine Ext.alloc ?_ _ | refine Ext.drew ?_ | refine Ext.drewN ?_ _ | refine Ext.setCell ?_ (by first | (simp; done) | (simp; omega) | omega) _ | refine Ext.trans ?_ (by assumption)))))))))
        ((first
          | (go_at_call 142; refine Calls.mono (impl_partnerDays _ _ n lk o _ (H.out.up (by repeat (first | exact Ext.refl _ | assumption | refine Ext.alloc ?_ _ | refine Ext.drew ?_ | refine Ext.drewN ?_ _ | refine Ext.setCell ?_ (by first | (simp; done) | (simp; omega) | omega) _ | refine Ext.trans ?_ (by assumption)))) Hpi.out) ?_; rintro e wp ⟨vp, rfl, hxp, hrp⟩; obtain ⟨Ap, cp, rfl⟩ := ownsRow_len hrp)
          | (go_at_call 141; refine Calls.mono (impl_limited_no _ _ _ _ (by omega) h3) ?_; rintro e wq ⟨rfl, rfl⟩)))
      go_wp2_with fail
      go_ret2
      rw [(Hn2.out h3).1, (Hn2.out h3).2]
      exact NewSps2.nil 3 (hx.trans (show Ext w1 wp from (by repeat (first | exact Ext.refl _ | assumption | refine Ext.alloc ?_ _ | refine Ext.drew ?_ | refine Ext.drewN ?_ _ | refine Ext.setCell ?_ (by first | (simp; done) | (simp; omega) | omega) _ | refine Ext.trans ?_ (by assumption)))))
  · have Hn := Lib.hid (pd_no (o := o) h0)
    have hne : (lnkE n i != 0) = true := bne_iff_ne.2 h0
    have hde : decide (lnkE n i = 0) = false := decide_eq_false h0
    generalize lnkE n i = c at *
    go_wp2_with fail
    go_ret2
    rw [Hn.out.1, Hn.out.2]
    exact NewSps2.nil c hx
set_option maxRecDepth 100000 in
set_option maxHeartbeats 8000000 in
theorem spec_PartnerDays (s k : Value) (n : Net) (i : Int) (o : Bool) (w : World) (h : NetIn w s k n) : Calls Try.prog 47 #[.agg #[s, k], .int .i64 i, .bool o] w (NewSps2 (pdL n i o) (pdE n i o) w) := by
  obtain ⟨As, cs, rfl, hns, hcs⟩ := h.1.len
  obtain ⟨Ak, ck, rfl, hnk, hck⟩ := h.2.len
  have H := Lib.hid h
  clear h
  go_enter Try.func47, Try.ntmps47
  go_wp2_with fail
  refine Calls.mono (spec_l19Code _ _ n i _ (H.out.up (by repeat (first | exact Ext.refl _ | assumption | refine Ext.alloc ?_ _ | refine Ext.drew ?_ | refine Ext.drewN ?_ _ | refine Ext.setCell ?_ (by first | (simp; done) | (simp; omega) | omega) _ | refine Ext.trans ?_ (by assumption))))) ?_
  rintro e w1 ⟨rfl, hx1⟩
  have hx : Ext w w1 := (by repeat (first | exact Ext.refl _ | assumption | refine Ext.alloc ?_ _ | refine Ext.drew ?_ | refine Ext.drewN ?_ _ | refine Ext.setCell ?_ (by first | (simp; done) | (simp; omega) | omega) _ | refine Ext.trans ?_ (by assumption)))
  have hb := (Boxed.new w [.slice As n.sets.length cs, .slice Ak n.links.length ck] 27).ext hx1; have hb0 := hb.at0; have hb1 := hb.at1; have hbg := hb.1; have Hhb := Lib.hid hb; clear hb
  clear hx1
  by_cases h0 : lnkE n i = 0
  · have H0 := Lib.hid h0
    have Hz := Lib.hid (lnk_zero h0)
    rw [h0]
    clear h0
    obtain ⟨i1, i2⟩ := Hz.out.2
    have h20 := Hz.out.1.2.1
    have hil : i.toNat < n.links.length := by omega
    have hiN : i < (n.links.length : Int) := by omega
    obtain ⟨b, off, rfl, _, hb, c1, c2, c3, c4⟩ := (H.out.2.ext hx (Nat.le_refl _)).at_ hil
    have Hlk := Lib.hid (Hz.out.1.2.2.2 i.toNat hil)
    have Hpi : Hid (PartIn n (lkAt n.links i.toNat)) := Lib.hid (by
      obtain ⟨⟨x1, x2⟩, ⟨x3, x4⟩, _, x5, x6, x7⟩ := Hlk.out
      exact ⟨⟨x1, by omega⟩, ⟨x3, by omega⟩, x5, x6, x7, fun j hj => (Hz.out.1.2.2.1 j hj).d⟩)
    have hbr : b < w1.heap.size := by have := hx.size; omega
    have Hsd := Lib.hid (partN_ok (o := o) Hpi.out)
    have hpl := Hsd.out.len
    have Hn1 := Lib.hid (fun h3 => pd_ok (o := o) H0.out h3)
    have Hn2 := Lib.hid (fun h3 => pd_big (o := o) H0.out h3)
    generalize hlk : lkAt n.links i.toNat = lk at *
    by_cases h3 : (partN n lk o).length ≤ 300
    · go_wp2_with fail
      go_region_held3 (fun w' => w'.cell? ⟨w.heap.size, 0, none⟩ = some (.slice As n.sets.length cs) ∧ w'.cell? ⟨w.heap.size, 1, none⟩ = some (.slice (some ⟨b, off, none⟩) n.links.length ck) ∧ w'.cell? ⟨b, off + i.toNat * 4, none⟩ = some (.int .i64 lk.be) ∧ w'.cell? ⟨b, off + i.toNat * 4 + 1, none⟩ = some (.int .i64 lk.af) ∧ w'.cell? ⟨b, off + i.toNat * 4 + 2, none⟩ = some (.int .i64 lk.le) ∧ w'.cell? ⟨b, off + i.toNat * 4 + 3, none⟩ = some (.int .i64 lk.mo) ∧ Ext w1 w')
        (exact Ext.and_cell hbg hb0 (by repeat (first | exact Ext.refl _ | assumption | refine Ext.alloc ?_ _ | refine Ext.drew ?_ | refine Ext.drewN ?_ _ | refine Ext.setCell ?_ (by first | (simp; done) | (simp; omega) | omega) _ | refine Ext.trans ?_ (by assumption))) (Ext.and_cell hbg hb1 (by repeat (first | exact Ext.refl _ | assumption | refine Ext.alloc ?_ _ | refine Ext.drew ?_ | refine Ext.drewN ?_ _ | refine Ext.setCell ?_ (by first | (simp; done) | (simp; omega) | omega) _ | refine Ext.trans ?_ (by assumption))) (Ext.and_cell hbr c1 (by repeat (first | exact Ext.refl _ | assumption | refine Ext.alloc ?_ _ | refine Ext.drew ?_ | refine Ext.drewN ?_ _ | refine Ext.setCell ?_ (by first | (simp; done) | (simp; omega) | omega) _ | refine Ext.trans ?_ (by assumption))) (Ext.and_cell hbr c2 (by repeat (first | exact Ext.refl _ | assumption | refine Ext.alloc ?_ _ | refine Ext.drew ?_ | refine Ext.drewN ?_ _ | refine Ext.setCell ?_ (by first | (simp; done) | (simp; omega) | omega) _ | refine Ext.trans ?_ (by assumption))) (Ext.and_cell hbr c3 (by repeat (first | exact Ext.refl _ | assumption | refine Ext.alloc ?_ _ | refine Ext.drew ?_ | refine Ext.drewN ?_ _ | refine Ext.setCell ?_ (by first | (simp; done) | (simp; omega) | omega) _ | refine Ext.trans ?_ (by assumption))) (Ext.and_cell hbr c4 (by repeat (first | exact Ext.refl _ | assumption | refine Ext.alloc ?_ _ | refine Ext.drew ?_ | refine Ext.drewN ?_ _ | refine Ext.setCell ?_ (by first | (simp; done) | (simp; omega) | omega) _ | refine Ext.trans ?_ (by assumption))) (by repeat (first | exact Ext.refl _ | assumption | refine Ext.alloc ?_ _ | refine Ext.drew ?_ | refine Ext.drewN ?_ _ | refine Ext.setCell ?_ (by first | (simp; done) | (simp; omega) | omega) _ | refine Ext.trans ?_ (by assumption)))))))))
        ((first
          | (go_at_call 145; refine Calls.mono (spec_l19Partner _ _ n lk o _ (H.out.up (by repeat (first | exact Ext.refl _ | assumption | refine Ext.alloc ?_ _ | refine Ext.drew ?_ | refine Ext.drewN ?_ _ | refine Ext.setCell ?_ (by first | (simp; done) | (simp; omega) | omega) _ | refine Ext.trans ?_ (by assumption)))) Hpi.out) ?_; rintro e wp ⟨vp, rfl, hxp, hrp⟩; obtain ⟨Ap, cp, rfl⟩ := ownsRow_len hrp)
          | (go_at_call 144; refine Calls.mono (spec_l02Result_yes _ _ _ _ h3) ?_; rintro e wq ⟨rfl, rfl⟩)))
      go_wp2_with fail
      go_ret2
      rw [(Hn1.out h3).1, (Hn1.out h3).2]
      exact NewSps2.of (hx.trans (show Ext w1 wp from (by repeat (first | exact Ext.refl _ | assumption | refine Ext.alloc ?_ _ | refine Ext.drew ?_ | refine Ext.drewN ?_ _ | refine Ext.setCell ?_ (by first | (simp; done) | (simp; omega) | omega) _ | refine Ext.trans ?_ (by assumption))))) (ownsRow_mono hrp hx.size)
    · go_wp2_with fail
      go_region_held3 (fun w' => w'.cell? ⟨w.heap.size, 0, none⟩ = some (.slice As n.sets.length cs) ∧ w'.cell? ⟨w.heap.size, 1, none⟩ = some (.slice (some ⟨b, off, none⟩) n.links.length ck) ∧ w'.cell? ⟨b, off + i.toNat * 4, none⟩ = some (.int .i64 lk.be) ∧ w'.cell? ⟨b, off + i.toNat * 4 + 1, none⟩ = some (.int .i64 lk.af) ∧ w'.cell? ⟨b, off + i.toNat * 4 + 2, none⟩ = some (.int .i64 lk.le) ∧ w'.cell? ⟨b, off + i.toNat * 4 + 3, none⟩ = some (.int .i64 lk.mo) ∧ Ext w1 w')
        (exact Ext.and_cell hbg hb0 (by repeat (first | exact Ext.refl _ | assumption | refine Ext.alloc ?_ _ | refine Ext.drew ?_ | refine Ext.drewN ?_ _ | refine Ext.setCell ?_ (by first | (simp; done) | (simp; omega) | omega) _ | refine Ext.trans ?_ (by assumption))) (Ext.and_cell hbg hb1 (by repeat (first | exact Ext.refl _ | assumption | refine Ext.alloc ?_ _ | refine Ext.drew ?_ | refine Ext.drewN ?_ _ | refine Ext.setCell ?_ (by first | (simp; done) | (simp; omega) | omega) _ | refine Ext.trans ?_ (by assumption))) (Ext.and_cell hbr c1 (by repeat (first | exact Ext.refl _ | assumption | refine Ext.alloc ?_ _ | refine Ext.drew ?_ | refine Ext.drewN ?_ _ | refine Ext.setCell ?_ (by first | (simp; done) | (simp; omega) | omega) _ | refine Ext.trans ?_ (by assumption))) (Ext.and_cell hbr c2 (by repeat (first | exact Ext.refl _ | assumption | refine Ext.alloc ?_ _ | refine Ext.drew ?_ | refine Ext.drewN ?_ _ | refine Ext.setCell ?_ (by first | (simp; done) | (simp; omega) | omega) _ | refine Ext.trans ?_ (by assumption))) (Ext.and_cell hbr c3 (by repeat (first | exact Ext.refl _ | assumption | refine Ext.alloc ?_ _ | refine Ext.drew ?_ | refine Ext.drewN ?_ _ | refine Ext.setCell ?_ (by first | (simp; done) | (simp; omega) | omega) _ | refine Ext.trans ?_ (by assumption))) (Ext.and_cell hbr c4 (by repeat (first | exact Ext.refl _ | assumption | refine Ext.alloc ?_ _ | refine Ext.drew ?_ | refine Ext.drewN ?_ _ | refine Ext.setCell ?_ (by first | (simp; done) | (simp; omega) | omega) _ | refine Ext.trans ?_ (by assumption))) (by repeat (first | exact Ext.refl _ | assumption | refine Ext.alloc ?_ _ | refine Ext.drew ?_ | refine Ext.drewN ?_ _ | refine Ext.setCell ?_ (by first | (simp; done) | (simp; omega) | omega) _ | refine Ext.trans ?_ (by assumption)))))))))
        ((first
          | (go_at_call 145; refine Calls.mono (spec_l19Partner _ _ n lk o _ (H.out.up (by repeat (first | exact Ext.refl _ | assumption | refine Ext.alloc ?_ _ | refine Ext.drew ?_ | refine Ext.drewN ?_ _ | refine Ext.setCell ?_ (by first | (simp; done) | (simp; omega) | omega) _ | refine Ext.trans ?_ (by assumption)))) Hpi.out) ?_; rintro e wp ⟨vp, rfl, hxp, hrp⟩; obtain ⟨Ap, cp, rfl⟩ := ownsRow_len hrp)
          | (go_at_call 144; refine Calls.mono (spec_l02Result_no _ _ _ _ (by omega) h3) ?_; rintro e wq ⟨rfl, rfl⟩)))
      go_wp2_with fail
      go_ret2
      rw [(Hn2.out h3).1, (Hn2.out h3).2]
      exact NewSps2.nil 3 (hx.trans (show Ext w1 wp from (by repeat (first | exact Ext.refl _ | assumption | refine Ext.alloc ?_ _ | refine Ext.drew ?_ | refine Ext.drewN ?_ _ | refine Ext.setCell ?_ (by first | (simp; done) | (simp; omega) | omega) _ | refine Ext.trans ?_ (by assumption)))))
  · have Hn := Lib.hid (pd_no (o := o) h0)
    have hne : (lnkE n i != 0) = true := bne_iff_ne.2 h0
    have hde : decide (lnkE n i = 0) = false := decide_eq_false h0
    generalize lnkE n i = c at *
    go_wp2_with fail
    go_ret2
    rw [Hn.out.1, Hn.out.2]
    exact NewSps2.nil c hx
end Go.Proofs.Ytfajmlkiidnhlaa

/- Contracts: the program's checkChoices. -/
namespace Go.Proofs.Ytfajmlkiidnhlaa
set_option linter.unusedVariables false
set_option linter.unusedSimpArgs false
open Go.RowKit
attribute [local go_sem] cell_onto

def VarsOk (n : Net) (vs : List Int) : Prop := ∀ i, i < vs.length → 0 ≤ inAt vs i ∧ inAt vs i ≤ (n.sets.length : Int) - 1
theorem varsOk_iff {n : Net} {vs : List Int} : ¬ Some_ vs.length (fun i => ¬ (0 ≤ inAt vs i ∧ inAt vs i ≤ (n.sets.length : Int) - 1)) ↔ VarsOk n vs := by
  unfold Some_ VarsOk
  constructor
  · intro h i hi
    exact Classical.byContradiction fun hn => h ⟨i, hi, hn⟩
  · rintro h ⟨i, hi, hn⟩
    exact hn (h i hi)
theorem codeE_net {n : Net} {b : Bool} (h : ¬ NetOk n) : codeE n b = 1 := by unfold codeE; rw [B_false h]; rfl
theorem codeE_bad {n : Net} (h : NetOk n) : codeE n false = 2 := by unfold codeE; rw [B_true h]; rfl
theorem codeE_big {n : Net} (h : NetOk n) (h2 : ¬ choN 4096 n.sets ≤ 4096) : codeE n true = 3 := by unfold codeE; rw [B_true h, B_false h2]; rfl
theorem codeE_ok {n : Net} (h : NetOk n) (h2 : choN 4096 n.sets ≤ 4096) : codeE n true = 0 := by unfold codeE; rw [B_true h, B_true h2]; rfl
theorem codeE_zero {n : Net} {b : Bool} (h : codeE n b = 0) : NetOk n ∧ b = true ∧ choN 4096 n.sets ≤ 4096 := by
  by_cases h1 : NetOk n
  · cases b
    · rw [codeE_bad h1] at h; omega
    · by_cases h2 : choN 4096 n.sets ≤ 4096
      · exact ⟨h1, rfl, h2⟩
      · rw [codeE_big h1 h2] at h; omega
  · rw [codeE_net h1] at h; omega

set_option maxHeartbeats 400000 in
theorem impl_checkChoices_1 (d : Int) (gN m : Nat) (A : Option Addr) (c : Nat) (w : World) (h : w.cell? ⟨gN, 0, none⟩ = some (.slice A m c)) (hg : gN < w.heap.size) (hm : m ≤ 1048576) :
    Calls Try.prog 185 #[.int .i64 d, .pointer (some ⟨gN, 0, none⟩)] w (RetX (.bool (B (¬ (0 ≤ d ∧ d ≤ (m : Int) - 1)))) w) := by
  go_enter Try.func185, Try.ntmps185
  go_wp2_with (go_at_call 95; refine (impl_within _ _ _ _).mono ?_; rintro e w1 ⟨rfl, rfl⟩)
  (go_ret; exact ⟨ret_bool (B_eq (by simp [B_not])), (by repeat (first | exact Ext.refl _ | assumption | refine Ext.alloc ?_ _ | refine Ext.drew ?_ | refine Ext.drewN ?_ _ | refine Ext.setCell ?_ (by first | (simp; done) | (simp; omega) | omega) _ | refine Ext.trans ?_ (by assumption)))⟩)
set_option maxHeartbeats 1000000 in
theorem impl_checkChoices (s k v : Value) (n : Net) (vs : List Int) (w : World) (h : NetIn w s k n) (hd : Ints w 0 w.heap.size v vs) :
    Calls Try.prog 107 #[.agg #[s, k], v] w (RetX (.int .i64 (codeE n (B (VarsOk n vs)))) w) := by
  obtain ⟨A, c, rfl, hn, hc⟩ := h.1.len
  obtain ⟨A', c', rfl, hn', hc'⟩ := hd.len
  have H := Lib.hid h
  have Hd := Lib.hid hd
  clear h hd
  go_enter Try.func107, Try.ntmps107
  go_wp2_with fail
  refine Calls.mono (impl_IsNetwork _ k n _ (H.out.up (by repeat (first | exact Ext.refl _ | assumption | refine Ext.alloc ?_ _ | refine Ext.drew ?_ | refine Ext.drewN ?_ _ | refine Ext.setCell ?_ (by first | (simp; done) | (simp; omega) | omega) _ | refine Ext.trans ?_ (by assumption))))) ?_
  rintro e w1 ⟨rfl, hx1⟩
  have hb := (Boxed.new w [.slice A n.sets.length c, k] 27).ext hx1; have hb0 := hb.at0; have hb1 := hb.at1; have hbg := hb.1; have Hhb := Lib.hid hb; clear hb
  have hx : Ext w w1 := (by repeat (first | exact Ext.refl _ | assumption | refine Ext.alloc ?_ _ | refine Ext.drew ?_ | refine Ext.drewN ?_ _ | refine Ext.setCell ?_ (by first | (simp; done) | (simp; omega) | omega) _ | refine Ext.trans ?_ (by assumption)))
  clear hx1
  by_cases hok : NetOk n
  · have Hok := Lib.hid hok
    have hbd := choN_bd n.sets
    have hm8 : n.sets.length ≤ 1048576 := by have := hok.1; omega
    have Hbx : Hid (Boxed w1 w.heap.size [.slice A n.sets.length c, k]) := Lib.hid Hhb.out
    clear hok
    rw [B_true Hok.out]
    go_wp2_with fail
    refine Calls.mono (containsFunc_ints _ vs 185 #[.pointer (some ⟨w.heap.size, 0, none⟩)] (fun i => ¬ (0 ≤ inAt vs i ∧ inAt vs i ≤ (n.sets.length : Int) - 1)) w1 (Hd.out.up hx) Try.call185 (fun i w' _ hx' => impl_checkChoices_1 _ w.heap.size n.sets.length A c w' (Hbx.out.ext hx').at0 (Hbx.out.ext hx').1 hm8)) ?_
    rintro e w2 ⟨rfl, hx2⟩
    by_cases hq : VarsOk n vs
    · have Hq := Lib.hid hq
      rw [B_false (fun hh => varsOk_iff.2 hq hh)]
      have hbq := Lib.hid (B_true hq)
      have hd := Hbx.out.ext hx2; have hd0 := hd.at0; have hd1 := hd.at1; have hdg := hd.1; have Hhd := Lib.hid hd; clear hd
      clear hq hb0 hb1 hbg Hhb Hbx
      go_wp2_with fail
      refine Calls.mono (impl_countChoices _ k n w2 (H.out.up (by repeat (first | exact Ext.refl _ | assumption | refine Ext.alloc ?_ _ | refine Ext.drew ?_ | refine Ext.drewN ?_ _ | refine Ext.setCell ?_ (by first | (simp; done) | (simp; omega) | omega) _ | refine Ext.trans ?_ (by assumption)))) 4096 (by omega) (by omega) (SetsFit.of Hok.out)) ?_
      rintro e w3 ⟨rfl, hx3⟩
      by_cases hl : choN 4096 n.sets ≤ 4096
      · have T1 : decide (4096 < choN 4096 n.sets) = false := decide_eq_false (by omega)
        have Hl := Lib.hid hl
        go_wp2_with fail
        go_ret
        exact ⟨by rw [hbq.out, codeE_ok Hok.out Hl.out]; rfl, (by repeat (first | exact Ext.refl _ | assumption | refine Ext.alloc ?_ _ | refine Ext.drew ?_ | refine Ext.drewN ?_ _ | refine Ext.setCell ?_ (by first | (simp; done) | (simp; omega) | omega) _ | refine Ext.trans ?_ (by assumption)))⟩
      · have T1 : decide (4096 < choN 4096 n.sets) = true := decide_eq_true (by omega)
        have Hl := Lib.hid hl
        go_wp2_with fail
        go_ret
        exact ⟨by rw [hbq.out, codeE_big Hok.out (show ¬ choN 4096 n.sets ≤ 4096 by have := Hl.out; omega)]; rfl, (by repeat (first | exact Ext.refl _ | assumption | refine Ext.alloc ?_ _ | refine Ext.drew ?_ | refine Ext.drewN ?_ _ | refine Ext.setCell ?_ (by first | (simp; done) | (simp; omega) | omega) _ | refine Ext.trans ?_ (by assumption)))⟩
    · have Hq := Lib.hid hq
      rw [B_true (Classical.byContradiction fun hh => hq (varsOk_iff.1 hh))]
      have hbq := Lib.hid (B_false hq)
      clear hq
      go_wp2_with fail
      go_ret
      exact ⟨by rw [hbq.out, codeE_bad Hok.out]; rfl, (by repeat (first | exact Ext.refl _ | assumption | refine Ext.alloc ?_ _ | refine Ext.drew ?_ | refine Ext.drewN ?_ _ | refine Ext.setCell ?_ (by first | (simp; done) | (simp; omega) | omega) _ | refine Ext.trans ?_ (by assumption)))⟩
  · have Hok := Lib.hid hok
    clear hok
    rw [B_false Hok.out]
    go_wp2_with fail
    go_ret
    exact ⟨by rw [codeE_net Hok.out]; rfl, (by repeat (first | exact Ext.refl _ | assumption | refine Ext.alloc ?_ _ | refine Ext.drew ?_ | refine Ext.drewN ?_ _ | refine Ext.setCell ?_ (by first | (simp; done) | (simp; omega) | omega) _ | refine Ext.trans ?_ (by assumption)))⟩
end Go.Proofs.Ytfajmlkiidnhlaa
