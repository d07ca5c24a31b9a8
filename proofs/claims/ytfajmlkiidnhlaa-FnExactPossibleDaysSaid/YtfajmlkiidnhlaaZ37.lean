/- Texts merged: a claim holds at most sixty files. -/
import Derived.Test.YtfajmlkiidnhlaaZ32
import Derived.Test.YtfajmlkiidnhlaaZ36
import Derived.Test.YtfajmlkiidnhlaaZ30
import Derived.Deep.RegionHeld3
/- Contracts: the program's PossibleDays, SolvedNetwork. -/
namespace Go.Proofs.Ytfajmlkiidnhlaa
set_option linter.unusedVariables false
set_option linter.unusedSimpArgs false
open Go.RowKit
attribute [local go_sem] cell_onto

theorem vars1 {n : Net} {a : Int} : VarsOk n [a] ↔ 0 ≤ a ∧ a ≤ (n.sets.length : Int) - 1 := by
  constructor
  · intro h
    exact h 0 (by simp)
  · rintro h i hi
    match i, hi with
    | 0, _ => exact h
theorem ints1 (w : World) (a : Int) (T : TypeId) : Ints (w.alloc (.cells #[.int .i64 a] T)) 0 (w.alloc (.cells #[.int .i64 a] T)).heap.size (.slice (some ⟨w.heap.size, 0, none⟩) 1 1) [a] :=
  have h := Boxed.new w [.int .i64 a] T
  ⟨by simp [maxLen], _, 1, rfl, Nat.le_refl _, fun _ => ⟨w.heap.size, 0, rfl, Nat.zero_le _, h.1, fun i hi => by
    rw [Nat.zero_add]
    have hi' : i < 1 := by simpa using hi
    match i, hi' with
    | 0, _ => exact (h.2 0 _ rfl).1⟩⟩
noncomputable def posE (n : Net) (i : Int) : Int := codeE n (B (VarsOk n [i]))
noncomputable def psE (n : Net) (i : Int) : Int := bif B (posE n i = 0) then (bif B ((posL n i.toNat).length ≤ 300) then 0 else 3) else posE n i
noncomputable def psL (n : Net) (i : Int) : List Sp := bif B (psE n i = 0) then posL n i.toNat else []
theorem pos_zero {n : Net} {i : Int} (h : posE n i = 0) : NetOk n ∧ prodN n.sets ≤ 4096 ∧ 0 ≤ i ∧ i ≤ (n.sets.length : Int) - 1 := by
  obtain ⟨z1, z2, z3⟩ := codeE_zero h
  exact ⟨z1, few_of z3, vars1.1 (B_iff.1 z2)⟩
theorem ps_no {n : Net} {i : Int} (h : posE n i ≠ 0) : psE n i = posE n i ∧ psL n i = [] := by
  have e : psE n i = posE n i := by unfold psE; rw [B_false h]; rfl
  refine ⟨e, ?_⟩
  unfold psL; rw [e, B_false h]; rfl
theorem ps_big {n : Net} {i : Int} (h : posE n i = 0) (h2 : ¬ (posL n i.toNat).length ≤ 300) : psE n i = 3 ∧ psL n i = [] := by
  have e : psE n i = 3 := by unfold psE; rw [B_true h, B_false h2]; rfl
  refine ⟨e, ?_⟩
  unfold psL; rw [e, B_false (by omega)]; rfl
theorem ps_ok {n : Net} {i : Int} (h : posE n i = 0) (h2 : (posL n i.toNat).length ≤ 300) : psE n i = 0 ∧ psL n i = posL n i.toNat := by
  have e : psE n i = 0 := by unfold psE; rw [B_true h, B_true h2]; rfl
  refine ⟨e, ?_⟩
  unfold psL; rw [e, B_true rfl]; rfl
theorem psL_small (n : Net) (i : Int) : (psL n i).length ≤ 1048576 := by
  by_cases h : posE n i = 0
  · by_cases h2 : (posL n i.toNat).length ≤ 300
    · rw [(ps_ok h h2).2]; omega
    · rw [(ps_big h h2).2]; simp
  · rw [(ps_no h).2]; simp
noncomputable def svE (n : Net) : Int := bif B (codeE n true = 0) then limE (svN n) else codeE n true
noncomputable def svV (n : Net) : Net := bif B (codeE n true = 0) then limV (svN n) else ⟨[], []⟩
theorem sv_ok {n : Net} (h : codeE n true = 0) : svV n = limV (svN n) ∧ svE n = limE (svN n) := by unfold svV svE; rw [B_true h]; exact ⟨rfl, rfl⟩
theorem sv_no {n : Net} (h : codeE n true ≠ 0) : svV n = ⟨[], []⟩ ∧ svE n = codeE n true := by unfold svV svE; rw [B_false h]; exact ⟨rfl, rfl⟩
theorem svV_small (n : Net) : Small (svV n) := by
  by_cases h : codeE n true = 0
  · rw [(sv_ok h).1]; exact limV_small (svN_d (codeE_zero h).1)
  · rw [(sv_no h).1]; exact small_nil
theorem OwnSets.cell_ {w : World} {lo hi : Nat} {A : Option Addr} {c i : Nat} {l : List (List Sp)} (h : OwnSets w lo hi (.slice A l.length c) l) (hi' : i < l.length) :
    ∃ g off u gu, A = some ⟨g, off, none⟩ ∧ g < w.heap.size ∧ w.cell? ⟨g, off + i, none⟩ = some u ∧ Own w gu 2 u (setAt l i).length (spanCell (setAt l i)) ∧ (0 < (setAt l i).length → lo ≤ gu ∧ gu < hi) := by
  obtain ⟨g0, f, g, d1, d2, d3, d4⟩ := h
  obtain ⟨off, e, hg, hh⟩ := d1.at_ (by omega)
  exact ⟨g0, off, f i, g i, e, hg, (hh i (by omega)).1, (d3 i hi').1, fun h0 => ⟨((d3 i hi').2 h0).1, ((d3 i hi').2 h0).2.1⟩⟩
set_option maxRecDepth 100000 in
set_option maxHeartbeats 8000000 in
theorem impl_PossibleDays (s k : Value) (n : Net) (i : Int) (w : World) (h : NetIn w s k n) : Calls Try.prog 75 #[.agg #[s, k], .int .i64 i] w (NewSps2 (psL n i) (psE n i) w) := by
  have H := Lib.hid h
  have Hv : Hid (Ints ((w.alloc (.cells #[s, k] 27)).alloc (.cells #[.int .i64 i] 2)) 0 ((w.alloc (.cells #[s, k] 27)).alloc (.cells #[.int .i64 i] 2)).heap.size (.slice (some ⟨w.heap.size + 1, 0, none⟩) 1 1) [i]) := Lib.hid (by
    have := ints1 (w.alloc (.cells #[s, k] 27)) i 2
    rwa [show (w.alloc (.cells #[s, k] 27)).heap.size = w.heap.size + 1 from World.size_alloc _ _] at this)
  clear h
  go_enter Try.func75, Try.ntmps75
  go_wp2_with fail
  refine Calls.mono (impl_checkChoices s k _ n [i] _ (H.out.up (by repeat (first | exact Ext.refl _ | assumption | refine Ext.alloc ?_ _ | refine Ext.drew ?_ | refine Ext.drewN ?_ _ | refine Ext.setCell ?_ (by first | (simp; done) | (simp; omega) | omega) _ | refine Ext.trans ?_ (by assumption)))) Hv.out) ?_
  rintro e w1 ⟨rfl, hx1⟩
  have hb := (Boxed.new w [s, k] 27).ext (((Ext.refl _).alloc _).trans hx1); have hb0 := hb.at0; have hb1 := hb.at1; have hbg := hb.1; have Hhb := Lib.hid hb; clear hb
  have hx : Ext w w1 := (by repeat (first | exact Ext.refl _ | assumption | refine Ext.alloc ?_ _ | refine Ext.drew ?_ | refine Ext.drewN ?_ _ | refine Ext.setCell ?_ (by first | (simp; done) | (simp; omega) | omega) _ | refine Ext.trans ?_ (by assumption)))
  have He : Hid (codeE n (B (VarsOk n [i])) = posE n i) := Lib.hid rfl
  rw [He.out]
  clear hx1 Hv He
  by_cases hc : posE n i = 0
  · have Hc := Lib.hid hc
    have Hz := Lib.hid (pos_zero hc)
    obtain ⟨-, -, i1, i2⟩ := Hz.out
    rw [hc]
    clear hc
    have hiN : i < (n.sets.length : Int) := by omega
    have hil : i.toNat < n.sets.length := by omega
    go_wp2_with fail
    refine Calls.mono (impl_possibleDays _ _ n _ (H.out.up (by repeat (first | exact Ext.refl _ | assumption | refine Ext.alloc ?_ _ | refine Ext.drew ?_ | refine Ext.drewN ?_ _ | refine Ext.setCell ?_ (by first | (simp; done) | (simp; omega) | omega) _ | refine Ext.trans ?_ (by assumption)))) Hz.out.1 Hz.out.2.1) ?_
    rintro e w2 ⟨v2, rfl, hx2, hos⟩
    obtain ⟨A2, c2, rfl⟩ := hos.len
    have hpl := posSS_len n
    obtain ⟨g, off, u, gu, rfl, hg, hcell, hown, hgu⟩ := hos.cell_ (i := i.toNat) (by omega)
    rw [posSS_at hil] at hown hgu
    obtain ⟨Au, cu, rfl⟩ := hown.len
    have Hown := Lib.hid hown
    have Hgu := Lib.hid hgu
    have hxx : Ext w w2 := (by repeat (first | exact Ext.refl _ | assumption | refine Ext.alloc ?_ _ | refine Ext.drew ?_ | refine Ext.drewN ?_ _ | refine Ext.setCell ?_ (by first | (simp; done) | (simp; omega) | omega) _ | refine Ext.trans ?_ (by assumption)))
    clear hos hown hgu hb0 hb1 hbg Hhb
    rw [hpl]
    by_cases h3 : (posL n i.toNat).length ≤ 300
    · have Hn := Lib.hid (ps_ok Hc.out h3)
      go_wp2_with fail
      refine Calls.mono (impl_limited_yes _ _ _ _ h3) ?_
      rintro e w4 ⟨rfl, rfl⟩
      go_wp2_with fail
      go_ret2
      rw [Hn.out.1, Hn.out.2]
      exact ⟨_, gu, rfl, hxx, fun h0 => by have := (Hgu.out h0).1; have := hx.size; omega, Hown.out⟩
    · have Hn := Lib.hid (ps_big Hc.out h3)
      have hml := Hown.out.1
      go_wp2_with fail
      refine Calls.mono (impl_limited_no _ _ _ _ (by unfold maxLen at hml; omega) h3) ?_
      rintro e w4 ⟨rfl, rfl⟩
      go_wp2_with fail
      go_ret2
      rw [Hn.out.1, Hn.out.2]
      exact NewSps2.nil 3 (by repeat (first | exact Ext.refl _ | assumption | refine Ext.alloc ?_ _ | refine Ext.drew ?_ | refine Ext.drewN ?_ _ | refine Ext.setCell ?_ (by first | (simp; done) | (simp; omega) | omega) _ | refine Ext.trans ?_ (by assumption)))
  · have Hn := Lib.hid (ps_no hc)
    have hne : (posE n i != 0) = true := bne_iff_ne.2 hc
    have hde : decide (posE n i = 0) = false := decide_eq_false hc
    generalize posE n i = c at *
    go_wp2_with fail
    go_ret2
    rw [Hn.out.1, Hn.out.2]
    exact NewSps2.nil c hx
set_option maxRecDepth 100000 in
set_option maxHeartbeats 8000000 in
theorem impl_SolvedNetwork (s k : Value) (n : Net) (w : World) (h : NetIn w s k n) : Calls Try.prog 82 #[.agg #[s, k]] w (NewNet2 (svV n) (svE n) w) := by
  obtain ⟨As, c0, rfl, hns0, hcs0⟩ := h.1.len
  obtain ⟨Ar, c1, rfl, hnk0, hck0⟩ := h.2.len
  have H := Lib.hid h
  clear h
  go_enter Try.func82, Try.ntmps82
  go_wp2_with fail
  refine Calls.mono (impl_checkChoices _ _ _ n [] _ (H.out.up (by repeat (first | exact Ext.refl _ | assumption | refine Ext.alloc ?_ _ | refine Ext.drew ?_ | refine Ext.drewN ?_ _ | refine Ext.setCell ?_ (by first | (simp; done) | (simp; omega) | omega) _ | refine Ext.trans ?_ (by assumption)))) (nilInts _)) ?_
  rintro e w1 ⟨rfl, hx1⟩
  have hx : Ext w w1 := (by repeat (first | exact Ext.refl _ | assumption | refine Ext.alloc ?_ _ | refine Ext.drew ?_ | refine Ext.drewN ?_ _ | refine Ext.setCell ?_ (by first | (simp; done) | (simp; omega) | omega) _ | refine Ext.trans ?_ (by assumption)))
  have Hnb := Lib.hid (((Boxed.new w [.slice As n.sets.length c0, .slice Ar n.links.length c1] 27).ext ((Ext.refl _).alloc (.cells #[.slice none 0 0, .slice none 0 0] 27))).ext hx1)
  have Hrb : Hid (Boxed w1 (w.heap.size + 1) [.slice none 0 0, .slice none 0 0]) := Lib.hid
    (by
      have := (Boxed.new (w.alloc (.cells #[.slice As n.sets.length c0, .slice Ar n.links.length c1] 27)) [.slice none 0 0, .slice none 0 0] 27).ext hx1
      rwa [World.size_alloc] at this)
  have hr1 := Hrb.out.1
  have He : Hid (codeE n (B (VarsOk n [])) = codeE n true) := Lib.hid (by rw [B_true (varsOk_nil n)])
  rw [He.out]
  clear hx1 He
  by_cases hc : codeE n true = 0
  · have Hc := Lib.hid hc
    have Hok := Lib.hid (codeE_zero hc).1
    have Hfew := Lib.hid (few_of (codeE_zero hc).2.2)
    have Hn := Lib.hid (sv_ok hc)
    have h20 := (codeE_zero hc).1.2.1
    rw [hc]
    clear hc
    have hb := Hnb.out; have hb0 := hb.at0; have hb1 := hb.at1; have hbg := hb.1; have Hhb := Lib.hid hb; clear hb
    go_wp2_with fail
    refine Calls.mono (impl_ownNetwork _ _ n _ (H.out.up hx) Hok.out.small) ?_
    rintro e w2 hnew
    obtain ⟨Ao, co, Aq, cq, a, b, rfl, hx2, hS2⟩ := NetS.of2 hnew
    have hxb : Ext w2 (w2.alloc (.cells #[.slice Ao n.sets.length co, .slice Aq n.links.length cq] 27)) := (by repeat (first | exact Ext.refl _ | assumption | refine Ext.alloc ?_ _ | refine Ext.drew ?_ | refine Ext.drewN ?_ _ | refine Ext.setCell ?_ (by first | (simp; done) | (simp; omega) | omega) _ | refine Ext.trans ?_ (by assumption)))
    have hbw2 := hS2.bw
    have hla := hS2.la
    have hz2 := hx2.size
    have hzw := hx.size
    have hsz : (w2.alloc (.cells #[.slice Ao n.sets.length co, .slice Aq n.links.length cq] 27)).heap.size = w2.heap.size + 1 := by simp
    have HS := Lib.hid (hS2.ext hxb)
    have Hob := Lib.hid (Boxed.new w2 [.slice Ao n.sets.length co, .slice Aq n.links.length cq] 27)
    have Hnb2 := Lib.hid ((Hnb.out.ext hx2).ext hxb)
    have Hrb2 := Lib.hid ((Hrb.out.ext hx2).ext hxb)
    have Hx := Lib.hid ((hx.trans hx2).trans hxb)
    obtain ⟨w3, hw3⟩ : ∃ x : World, x = w2.alloc (.cells #[.slice Ao n.sets.length co, .slice Aq n.links.length cq] 27) := ⟨_, rfl⟩
    rw [← hw3] at HS Hob Hnb2 Hrb2 Hx hsz
    clear hb0 hb1 hbg Hhb
    have hb := Hnb.out.ext hx2; have hb0 := hb.at0; have hb1 := hb.at1; have hbg := hb.1; have Hhb := Lib.hid hb; clear hb
    clear hnew hx2 hS2 hxb Hnb Hrb
    go_wp2_with fail
    rw [← hw3]
    clear hw3
    refine Calls.mono (impl_possibleDays _ _ n _ (H.out.up Hx.out) Hok.out Hfew.out) ?_
    rintro e w4 ⟨v4, rfl, hx4, hos⟩
    obtain ⟨A4, c4, rfl⟩ := hos.len
    have Hos := Lib.hid hos
    have Hob4 := Lib.hid (Hob.out.ext hx4)
    have Hrb4 := Lib.hid (Hrb2.out.ext hx4)
    clear hos hb0 hb1 hbg Hhb
    have ob := Hob4.out; have ob0 := ob.at0; have ob1 := ob.at1; have obg := ob.1; have Hob := Lib.hid ob; clear ob
    have of0 := Hob4.out.fz 0 (by simp)
    go_wp2_with fail
    have hz4 := hx4.size
    have hO : Off (fun x => x = w2.heap.size) w4 (w4.setCell ⟨w2.heap.size, 0, none⟩ (.slice A4 (posSS n).length c4)) := Off.setCell (S := fun x => x = w2.heap.size) (p := ⟨w2.heap.size, 0, none⟩) (Off.refl _ _) (.inl rfl) _
    obtain ⟨w5, hw5⟩ : ∃ x : World, x = w4.setCell ⟨w2.heap.size, 0, none⟩ (.slice A4 (posSS n).length c4) := ⟨_, rfl⟩
    rw [← hw5] at hO
    rw [← hw5]
    have hz5 := hO.size
    have HS5 : Hid (NetS 60 w5 w1.heap.size w3.heap.size w4.heap.size (.slice A4 (posSS n).length c4) (.slice Aq n.links.length cq) (svN n)) := Lib.hid (by
      have hl4 := row_ext HS.out.links hx4
      refine ⟨by have := HS.out.la; omega, by omega, by omega, ?_, ?_, ?_⟩
      · exact Hos.out.off hO (fun k h1 h2 hh => by omega)
      · exact ownsRow_off hl4 hO (fun g hg hh => by have := HS.out.lk g hg; have := HS.out.ab; omega)
      · exact fun g hg => by have := HS.out.lk g hg; have := HS.out.ab; omega)
    have Hx5 := Lib.hid ((Hx.out.trans hx4).off hO (fun x hx hh => by omega))
    have Hrb5 := Lib.hid (Hrb4.out.off hO (fun hh => by omega))
    clear ob0 ob1 obg of0 Hob hO hw5
    by_cases hl : Lim (svN n)
    · have Hl := Lib.hid hl
      clear hl
      refine Calls.mono (impl_limitedNetwork_yes _ _ (svN n) _ HS5.out.netIn Hl.out) ?_
      rintro e w6 ⟨rfl, hx6⟩
      have rb := Hrb5.out.ext hx6; have rb0 := rb.at0; have rb1 := rb.at1; have rbg := rb.1; have Hrb := Lib.hid rb; clear rb
      have rf0 := Hrb.out.fz 0 (by simp)
      have rf1 := Hrb.out.fz 1 (by simp)
      go_wp2_with fail
      refine bodyPost_ret (v := .tuple #[.agg #[.slice A4 (posSS n).length c4, .slice Aq n.links.length cq], .int .i64 0]) (by simp [results, Try.results82, go_sem, *]) rfl ?_
      rw [Hn.out.1, Hn.out.2, (lim_yes Hl.out).1, (lim_yes Hl.out).2]
      exact NetS.fin2 0 (Hx5.out.trans hx6) (by omega) (by omega) (HS5.out.ext hx6)
    · have Hl := Lib.hid hl
      clear hl
      refine Calls.mono (impl_limitedNetwork_no _ _ (svN n) _ HS5.out.netIn Hl.out) ?_
      rintro e w6 ⟨rfl, hx6⟩
      have rb := Hrb5.out.ext hx6; have rb0 := rb.at0; have rb1 := rb.at1; have rbg := rb.1; have Hrb := Lib.hid rb; clear rb
      have rf0 := Hrb.out.fz 0 (by simp)
      have rf1 := Hrb.out.fz 1 (by simp)
      go_wp2_with fail
      refine bodyPost_ret (v := .tuple #[.agg #[.slice none 0 0, .slice none 0 0], .int .i64 3]) (by simp [results, Try.results82, go_sem, *]) rfl ?_
      rw [Hn.out.2, (lim_no Hl.out).1]
      exact Lib.nil2 3 (by rw [Hn.out.1, (lim_no Hl.out).2]) (Hx5.out.trans hx6) (by omega)
  · have Hn := Lib.hid (sv_no hc)
    have hne : (codeE n true != 0) = true := bne_iff_ne.2 hc
    have hde : decide (codeE n true = 0) = false := decide_eq_false hc
    generalize codeE n true = c at *
    have rb := Hrb.out; have rb0 := rb.at0; have rb1 := rb.at1; have rbg := rb.1; have Hrb := Lib.hid rb; clear rb
    have rf0 := Hrb.out.fz 0 (by simp)
    have rf1 := Hrb.out.fz 1 (by simp)
    go_wp2_with fail
    refine bodyPost_ret (v := .tuple #[.agg #[.slice none 0 0, .slice none 0 0], .int .i64 c]) (by simp [results, Try.results82, go_sem, *]) rfl ?_
    rw [Hn.out.2]
    exact Lib.nil2 c Hn.out.1 hx (by omega)
end Go.Proofs.Ytfajmlkiidnhlaa
