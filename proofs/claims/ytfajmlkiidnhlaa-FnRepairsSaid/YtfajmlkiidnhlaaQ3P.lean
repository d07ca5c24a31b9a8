/- Texts merged (a claim holds at most sixty files): P, Nt, Kc. -/
import Derived.Test.YtfajmlkiidnhlaaQ3K
import Derived.Test.YtfajmlkiidnhlaaQ3N
import Derived.Test.YtfajmlkiidnhlaaQ3Ch
import Derived.Test.YtfajmlkiidnhlaaQ3H
/- Contracts: the program's and the reference's BrokenLinks. -/
namespace Go.Proofs.Ytfajmlkiidnhlaa
set_option linter.unusedVariables false
set_option linter.unusedSimpArgs false
open Go.RowKit
attribute [local go_sem] cell_onto

noncomputable def brokenV (n : Net) (ds : List Int) : List Int := bif B (dayE n ds = 0) then brokenL n ds else []
theorem brokenV_ok {n : Net} {ds : List Int} (h : dayE n ds = 0) : brokenV n ds = brokenL n ds := by unfold brokenV; rw [B_true h]; rfl
theorem brokenV_no {n : Net} {ds : List Int} (h : ¬ dayE n ds = 0) : brokenV n ds = [] := by unfold brokenV; rw [B_false h]; rfl
theorem brokenV_small (n : Net) (ds : List Int) (h : Small n) : (brokenV n ds).length ≤ 1048576 := by
  by_cases hk : dayE n ds = 0
  · rw [brokenV_ok hk]
    exact Nat.le_trans (notTo_len _ _) h.2.1
  · rw [brokenV_no hk]
    exact Nat.zero_le _

set_option maxHeartbeats 1000000 in
theorem impl_BrokenLinks (s k v : Value) (n : Net) (ds : List Int) (w : World) (h : NetIn w s k n) (hd : Ints w 0 w.heap.size v ds) :
    Calls Try.prog 14 #[.agg #[s, k], v] w (NewInts2 (brokenV n ds) (dayE n ds) w) := by
  have H := Lib.hid h
  have Hd := Lib.hid hd
  clear h hd
  go_enter Try.func14, Try.ntmps14
  go_wp2_with fail
  refine Calls.mono (impl_checkDays s k v n ds _ (H.out.up (by repeat (first | exact Ext.refl _ | assumption | refine Ext.alloc ?_ _ | refine Ext.drew ?_ | refine Ext.drewN ?_ _ | refine Ext.setCell ?_ (by first | (simp; done) | (simp; omega) | omega) _ | refine Ext.trans ?_ (by assumption)))) (Hd.out.up (by repeat (first | exact Ext.refl _ | assumption | refine Ext.alloc ?_ _ | refine Ext.drew ?_ | refine Ext.drewN ?_ _ | refine Ext.setCell ?_ (by first | (simp; done) | (simp; omega) | omega) _ | refine Ext.trans ?_ (by assumption))))) ?_
  rintro e w1 ⟨rfl, hx1⟩
  have hb := (Boxed.new w [s, k] 27).ext hx1; have hb0 := hb.at0; have hb1 := hb.at1; have hbg := hb.1; have Hhb := Lib.hid hb; clear hb
  have hx : Ext w w1 := (by repeat (first | exact Ext.refl _ | assumption | refine Ext.alloc ?_ _ | refine Ext.drew ?_ | refine Ext.drewN ?_ _ | refine Ext.setCell ?_ (by first | (simp; done) | (simp; omega) | omega) _ | refine Ext.trans ?_ (by assumption)))
  clear hx1
  by_cases hok : NetOk n
  · have Hok := Lib.hid hok
    clear hok
    by_cases hq : ds.length = n.sets.length ∧ DaysOk ds
    · have Hq := Lib.hid hq
      clear hq
      have He := Lib.hid (dayE_ok Hok.out Hq.out)
      rw [He.out]
      go_wp2_with fail
      refine Calls.mono (impl_brokenLinks s k v n ds w1 (H.out.up hx) (Hd.out.up hx) Hok.out Hq.out.1 Hq.out.2) ?_
      rintro e w2 ⟨v2, g2, rfl, hx2, hg2, ho2⟩
      have Hg2 := Lib.hid hg2
      have Ho2 := Lib.hid ho2
      clear hg2 ho2
      go_wp2_with fail
      go_ret2
      rw [brokenV_ok He.out, He.out]
      exact ⟨_, g2, rfl, (by repeat (first | exact Ext.refl _ | assumption | refine Ext.alloc ?_ _ | refine Ext.drew ?_ | refine Ext.drewN ?_ _ | refine Ext.setCell ?_ (by first | (simp; done) | (simp; omega) | omega) _ | refine Ext.trans ?_ (by assumption))), fun h => by have := Hg2.out h; have := hx.size; omega, Ho2.out⟩
    · have Hq := Lib.hid hq
      clear hq
      have He := Lib.hid (dayE_bad Hok.out Hq.out)
      have Hv := Lib.hid (brokenV_no (n := n) (ds := ds) (by rw [He.out]; omega))
      rw [He.out]
      go_wp2_with fail
      go_ret2
      rw [Hv.out, He.out]
      exact NewInts2.nil 2 (by repeat (first | exact Ext.refl _ | assumption | refine Ext.alloc ?_ _ | refine Ext.drew ?_ | refine Ext.drewN ?_ _ | refine Ext.setCell ?_ (by first | (simp; done) | (simp; omega) | omega) _ | refine Ext.trans ?_ (by assumption)))
  · have Hok := Lib.hid hok
    clear hok
    have He := Lib.hid (dayE_net (ds := ds) Hok.out)
    have Hv := Lib.hid (brokenV_no (n := n) (ds := ds) (by rw [He.out]; omega))
    rw [He.out]
    go_wp2_with fail
    go_ret2
    rw [Hv.out, He.out]
    exact NewInts2.nil 1 (by repeat (first | exact Ext.refl _ | assumption | refine Ext.alloc ?_ _ | refine Ext.drew ?_ | refine Ext.drewN ?_ _ | refine Ext.setCell ?_ (by first | (simp; done) | (simp; omega) | omega) _ | refine Ext.trans ?_ (by assumption)))

set_option maxHeartbeats 2000000 in
theorem spec_BrokenLinks (s k v : Value) (n : Net) (ds : List Int) (w : World) (h : NetIn w s k n) (hd : Ints w 0 w.heap.size v ds) :
    Calls Try.prog 15 #[.agg #[s, k], v] w (NewInts2 (brokenV n ds) (dayE n ds) w) := by
  obtain ⟨A, c, rfl, hn, hc⟩ := h.2.len
  have H := Lib.hid h
  have Hd := Lib.hid hd
  clear h hd
  go_enter Try.func15, Try.ntmps15
  go_wp2_with fail
  refine Calls.mono (spec_l18Code s _ v n ds _ (H.out.up (by repeat (first | exact Ext.refl _ | assumption | refine Ext.alloc ?_ _ | refine Ext.drew ?_ | refine Ext.drewN ?_ _ | refine Ext.setCell ?_ (by first | (simp; done) | (simp; omega) | omega) _ | refine Ext.trans ?_ (by assumption)))) (Hd.out.up (by repeat (first | exact Ext.refl _ | assumption | refine Ext.alloc ?_ _ | refine Ext.drew ?_ | refine Ext.drewN ?_ _ | refine Ext.setCell ?_ (by first | (simp; done) | (simp; omega) | omega) _ | refine Ext.trans ?_ (by assumption))))) ?_
  rintro e w1 ⟨rfl, hx1⟩
  have hb := (Boxed.new w [s, .slice A n.links.length c] 27).ext hx1; have hb0 := hb.at0; have hb1 := hb.at1; have hbg := hb.1; have Hhb := Lib.hid hb; clear hb
  have hx : Ext w w1 := (by repeat (first | exact Ext.refl _ | assumption | refine Ext.alloc ?_ _ | refine Ext.drew ?_ | refine Ext.drewN ?_ _ | refine Ext.setCell ?_ (by first | (simp; done) | (simp; omega) | omega) _ | refine Ext.trans ?_ (by assumption)))
  clear hx1
  by_cases hok : NetOk n
  · have Hok := Lib.hid hok
    have h20 := hok.2.1
    clear hok
    by_cases hq : ds.length = n.sets.length ∧ DaysOk ds
    · have Hq := Lib.hid hq
      clear hq
      have He := Lib.hid (dayE_ok Hok.out Hq.out)
      rw [He.out]
      go_wp2_with fail
      go_loopg [7, 8] n.links.length (fun q u i wr => ∃ j : Nat, j + q = n.links.length ∧ i = .int .i64 j ∧ Ext w wr ∧ Boxed wr w.heap.size [s, .slice A n.links.length c] ∧
        wr.ownsRow (w.heap.size + 1) 2 1 u (notTo (fun i => Holds (lkAt n.links i) ds) j).length ((notTo (fun i => Holds (lkAt n.links i) ds) j).map (Value.int .i64)))
      case atStart =>
        refine ⟨0, by omega, rfl, (by repeat (first | exact Ext.refl _ | assumption | refine Ext.alloc ?_ _ | refine Ext.drew ?_ | refine Ext.drewN ?_ _ | refine Ext.setCell ?_ (by first | (simp; done) | (simp; omega) | omega) _ | refine Ext.trans ?_ (by assumption))), Hhb.out.ext (by repeat (first | exact Ext.refl _ | assumption | refine Ext.alloc ?_ _ | refine Ext.drew ?_ | refine Ext.drewN ?_ _ | refine Ext.setCell ?_ (by first | (simp; done) | (simp; omega) | omega) _ | refine Ext.trans ?_ (by assumption))), ?_⟩
        have := World.ownsRow_made (base := w.heap.size + 1) (e := 2) (size := 1) w1 #[] 0 hbg (Nat.zero_le _) rfl
        simpa [notTo] using this
      case round =>
        obtain ⟨j, hj, rfl, hxr, hbb, hown⟩ := hrel
        have hb := hbb; have hb0 := hb.at0; have hb1 := hb.at1; have hbg := hb.1; have Hhb := Lib.hid hb; clear hb
        have Hown := Lib.hid hown
        clear hown hbb
        by_cases hlt : j < n.links.length
        · obtain ⟨b, off, rfl, _, hbl, h1, h2, h3, h4⟩ := (H.out.2.ext hxr (Nat.le_refl _)).at_ hlt
          have Hlk := Lib.hid (Hok.out.2.2.2 j hlt)
          by_cases hh : Holds (lkAt n.links j) ds
          · have Hh := Lib.hid hh
            have Hb := Lib.hid (B_true hh)
            clear hh
            go_wp2_with fail
            refine Calls.mono (spec_l18Holds (lkAt n.links j) v ds n.sets.length wr (Hd.out.up hxr) Hlk.out Hq.out.1 Hq.out.2) ?_
            rintro e w2 ⟨rfl, hx2⟩
            rw [Hb.out]
            go_wp2_with fail
            go_roundg (n.links.length - (j + 1))
            case measure => omega
            case rel => exact ⟨j + 1, by omega, by go_num, (by repeat (first | exact Ext.refl _ | assumption | refine Ext.alloc ?_ _ | refine Ext.drew ?_ | refine Ext.drewN ?_ _ | refine Ext.setCell ?_ (by first | (simp; done) | (simp; omega) | omega) _ | refine Ext.trans ?_ (by assumption))), Hhb.out.ext hx2, by rw [notTo_yes (p := fun i => Holds (lkAt n.links i) ds) Hh.out]; exact row_ext Hown.out hx2⟩
          · have Hh := Lib.hid hh
            have Hb := Lib.hid (B_false hh)
            have Hlen := Lib.hid (notTo_len (fun i => Holds (lkAt n.links i) ds) j)
            clear hh
            go_wp2_with fail
            refine Calls.mono (spec_l18Holds (lkAt n.links j) v ds n.sets.length wr (Hd.out.up hxr) Hlk.out Hq.out.1 Hq.out.2) ?_
            rintro e w2 ⟨rfl, hx2⟩
            rw [Hb.out]
            have Hbw := Lib.hid (Hhb.out.ext hx2)
            have hxr2 : Ext w w2 := hxr.trans hx2
            go_wp2_with (at_builtin; refine wpList_append_box _ rfl _ _ 28 rfl (w.heap.size + 1) 2 1 8 Try.underlying28 (by kernel_rfl) (by omega) _ _ _ rfl (row_ext (row_ext Hown.out hx2) ((Ext.refl _).alloc _)) w2.heap.size [.int .i64 j] rfl (Boxed.new w2 [.int .i64 j] 2) rfl (by simp [Value.oneCell']) (by have := Hlen.out; unfold maxLen; omega) (by have := Hlen.out; omega) (by have := Hbw.out.1; simp; omega) ?_; intro v' w3 hown' hgr)
            have Hgr := Lib.hid (Ext.grown (hxr2.alloc (.cells #[.int .i64 j] 2)) hgr (row_ext (row_ext Hown.out hx2) ((Ext.refl _).alloc _)) (Nat.le_succ _))
            have Hbx := Lib.hid (Boxed.grown (Boxed.ext Hbw.out ((Ext.refl _).alloc (.cells #[.int .i64 j] 2))) hgr (row_ext (row_ext Hown.out hx2) ((Ext.refl _).alloc _)) (Nat.lt_succ_self _))
            have Hown' := Lib.hid hown'
            clear hown' hgr
            go_wp2_with fail
            go_roundg (n.links.length - (j + 1))
            case measure => omega
            case rel => exact ⟨j + 1, by omega, by go_num, Hgr.out, Hbx.out, by rw [notTo_no (p := fun i => Holds (lkAt n.links i) ds) Hh.out, List.length_append, List.map_append]; exact Hown'.out⟩
        · obtain rfl : j = n.links.length := by omega
          go_wp2_with fail
          go_ret2
          obtain ⟨g, hg, ho⟩ := Own.of_row (f := intCell (brokenL n ds)) Hown.out (intCells _)
          rw [brokenV_ok He.out, He.out]
          exact ⟨_, g, rfl, (by repeat (first | exact Ext.refl _ | assumption | refine Ext.alloc ?_ _ | refine Ext.drew ?_ | refine Ext.drewN ?_ _ | refine Ext.setCell ?_ (by first | (simp; done) | (simp; omega) | omega) _ | refine Ext.trans ?_ (by assumption))), fun h => by have := hg h; omega, ho⟩
    · have Hq := Lib.hid hq
      clear hq
      have He := Lib.hid (dayE_bad Hok.out Hq.out)
      have Hv := Lib.hid (brokenV_no (n := n) (ds := ds) (by rw [He.out]; omega))
      rw [He.out]
      go_wp2_with fail
      go_ret2
      rw [Hv.out, He.out]
      exact NewInts2.nil 2 (by repeat (first | exact Ext.refl _ | assumption | refine Ext.alloc ?_ _ | refine Ext.drew ?_ | refine Ext.drewN ?_ _ | refine Ext.setCell ?_ (by first | (simp; done) | (simp; omega) | omega) _ | refine Ext.trans ?_ (by assumption)))
  · have Hok := Lib.hid hok
    clear hok
    have He := Lib.hid (dayE_net (ds := ds) Hok.out)
    have Hv := Lib.hid (brokenV_no (n := n) (ds := ds) (by rw [He.out]; omega))
    rw [He.out]
    go_wp2_with fail
    go_ret2
    rw [Hv.out, He.out]
    exact NewInts2.nil 1 (by repeat (first | exact Ext.refl _ | assumption | refine Ext.alloc ?_ _ | refine Ext.drew ?_ | refine Ext.drewN ?_ _ | refine Ext.setCell ?_ (by first | (simp; done) | (simp; omega) | omega) _ | refine Ext.trans ?_ (by assumption)))
end Go.Proofs.Ytfajmlkiidnhlaa

/- Networks whose choices may be tried: plain bounds. -/
namespace Go.Proofs.Ytfajmlkiidnhlaa
set_option linter.unusedVariables false
set_option linter.unusedSimpArgs false

/-- a network whose choices may be tried -/
structure NetFit (n : Net) : Prop where
  s8 : n.sets.length ≤ 8
  k21 : n.links.length ≤ 21
  lks : LksOk n.links n.sets.length
  sps : ∀ i, i < n.sets.length → ∀ x, x ∈ setAt n.sets i → SpOk x
  fit : SetsFit n.sets
theorem NetFit.of {n : Net} (h : NetOk n) : NetFit n :=
  ⟨h.1, by have := h.2.1; omega, h.2.2.2, fun i hi x hx => by
    obtain ⟨k, hk, e⟩ := mem_spAt hx
    rw [← e]
    exact ((h.2.2.1 i hi).2 k hk).1, SetsFit.of h⟩
theorem NetFit.ch {n : Net} (h : NetFit n) {c : List Sp} (hc : IsCh n.sets c) : c.length = n.sets.length ∧ c.length ≤ 8 ∧ LksOk n.links c.length ∧ SpsOk c := by
  have hl := hc.len
  refine ⟨hl, by have := h.s8; omega, by rw [hl]; exact h.lks, fun i hi => h.sps i (by omega) _ (hc.mem i hi)⟩

end Go.Proofs.Ytfajmlkiidnhlaa

/- Contracts: the program's checkChoices. -/
namespace Go.Proofs.Ytfajmlkiidnhlaa
set_option linter.unusedVariables false
set_option linter.unusedSimpArgs false
open Go.RowKit
attribute [local go_sem] cell_onto

def VarsOk (n : Net) (vs : List Int) : Prop := ∀ i, i < vs.length → 0 ≤ inAt vs i ∧ inAt vs i ≤ (n.sets.length : Int) - 1
theorem varsOk_iff {n : Net} {vs : List Int} : ¬ Some_ vs.length (fun i => ¬ (0 ≤ inAt vs i ∧ inAt vs i ≤ (n.sets.length : Int) - 1)) ↔ VarsOk n vs := by
  unfold Some_ VarsOk
  constructor
  · intro h i hi
    exact Classical.byContradiction fun hn => h ⟨i, hi, hn⟩
  · rintro h ⟨i, hi, hn⟩
    exact hn (h i hi)
theorem codeE_net {n : Net} {b : Bool} (h : ¬ NetOk n) : codeE n b = 1 := by unfold codeE; rw [B_false h]; rfl
theorem codeE_bad {n : Net} (h : NetOk n) : codeE n false = 2 := by unfold codeE; rw [B_true h]; rfl
theorem codeE_big {n : Net} (h : NetOk n) (h2 : ¬ choN 4096 n.sets ≤ 4096) : codeE n true = 3 := by unfold codeE; rw [B_true h, B_false h2]; rfl
theorem codeE_ok {n : Net} (h : NetOk n) (h2 : choN 4096 n.sets ≤ 4096) : codeE n true = 0 := by unfold codeE; rw [B_true h, B_true h2]; rfl
theorem codeE_zero {n : Net} {b : Bool} (h : codeE n b = 0) : NetOk n ∧ b = true ∧ choN 4096 n.sets ≤ 4096 := by
  by_cases h1 : NetOk n
  · cases b
    · rw [codeE_bad h1] at h; omega
    · by_cases h2 : choN 4096 n.sets ≤ 4096
      · exact ⟨h1, rfl, h2⟩
      · rw [codeE_big h1 h2] at h; omega
  · rw [codeE_net h1] at h; omega

set_option maxHeartbeats 400000 in
theorem impl_checkChoices_1 (d : Int) (gN m : Nat) (A : Option Addr) (c : Nat) (w : World) (h : w.cell? ⟨gN, 0, none⟩ = some (.slice A m c)) (hg : gN < w.heap.size) (hm : m ≤ 1048576) :
    Calls Try.prog 185 #[.int .i64 d, .pointer (some ⟨gN, 0, none⟩)] w (RetX (.bool (B (¬ (0 ≤ d ∧ d ≤ (m : Int) - 1)))) w) := by
  go_enter Try.func185, Try.ntmps185
  go_wp2_with (go_at_call 95; refine (impl_within _ _ _ _).mono ?_; rintro e w1 ⟨rfl, rfl⟩)
  (go_ret; exact ⟨ret_bool (B_eq (by simp [B_not])), (by repeat (first | exact Ext.refl _ | assumption | refine Ext.alloc ?_ _ | refine Ext.drew ?_ | refine Ext.drewN ?_ _ | refine Ext.setCell ?_ (by first | (simp; done) | (simp; omega) | omega) _ | refine Ext.trans ?_ (by assumption)))⟩)
set_option maxHeartbeats 1000000 in
theorem impl_checkChoices (s k v : Value) (n : Net) (vs : List Int) (w : World) (h : NetIn w s k n) (hd : Ints w 0 w.heap.size v vs) :
    Calls Try.prog 107 #[.agg #[s, k], v] w (RetX (.int .i64 (codeE n (B (VarsOk n vs)))) w) := by
  obtain ⟨A, c, rfl, hn, hc⟩ := h.1.len
  obtain ⟨A', c', rfl, hn', hc'⟩ := hd.len
  have H := Lib.hid h
  have Hd := Lib.hid hd
  clear h hd
  go_enter Try.func107, Try.ntmps107
  go_wp2_with fail
  refine Calls.mono (impl_IsNetwork _ k n _ (H.out.up (by repeat (first | exact Ext.refl _ | assumption | refine Ext.alloc ?_ _ | refine Ext.drew ?_ | refine Ext.drewN ?_ _ | refine Ext.setCell ?_ (by first | (simp; done) | (simp; omega) | omega) _ | refine Ext.trans ?_ (by assumption))))) ?_
  rintro e w1 ⟨rfl, hx1⟩
  have hb := (Boxed.new w [.slice A n.sets.length c, k] 27).ext hx1; have hb0 := hb.at0; have hb1 := hb.at1; have hbg := hb.1; have Hhb := Lib.hid hb; clear hb
  have hx : Ext w w1 := (by repeat (first | exact Ext.refl _ | assumption | refine Ext.alloc ?_ _ | refine Ext.drew ?_ | refine Ext.drewN ?_ _ | refine Ext.setCell ?_ (by first | (simp; done) | (simp; omega) | omega) _ | refine Ext.trans ?_ (by assumption)))
  clear hx1
  by_cases hok : NetOk n
  · have Hok := Lib.hid hok
    have hbd := choN_bd n.sets
    have hm8 : n.sets.length ≤ 1048576 := by have := hok.1; omega
    have Hbx : Hid (Boxed w1 w.heap.size [.slice A n.sets.length c, k]) := Lib.hid Hhb.out
    clear hok
    rw [B_true Hok.out]
    go_wp2_with fail
    refine Calls.mono (containsFunc_ints _ vs 185 #[.pointer (some ⟨w.heap.size, 0, none⟩)] (fun i => ¬ (0 ≤ inAt vs i ∧ inAt vs i ≤ (n.sets.length : Int) - 1)) w1 (Hd.out.up hx) Try.call185 (fun i w' _ hx' => impl_checkChoices_1 _ w.heap.size n.sets.length A c w' (Hbx.out.ext hx').at0 (Hbx.out.ext hx').1 hm8)) ?_
    rintro e w2 ⟨rfl, hx2⟩
    by_cases hq : VarsOk n vs
    · have Hq := Lib.hid hq
      rw [B_false (fun hh => varsOk_iff.2 hq hh)]
      have hbq := Lib.hid (B_true hq)
      have hd := Hbx.out.ext hx2; have hd0 := hd.at0; have hd1 := hd.at1; have hdg := hd.1; have Hhd := Lib.hid hd; clear hd
      clear hq hb0 hb1 hbg Hhb Hbx
      go_wp2_with fail
      refine Calls.mono (impl_countChoices _ k n w2 (H.out.up (by repeat (first | exact Ext.refl _ | assumption | refine Ext.alloc ?_ _ | refine Ext.drew ?_ | refine Ext.drewN ?_ _ | refine Ext.setCell ?_ (by first | (simp; done) | (simp; omega) | omega) _ | refine Ext.trans ?_ (by assumption)))) 4096 (by omega) (by omega) (SetsFit.of Hok.out)) ?_
      rintro e w3 ⟨rfl, hx3⟩
      by_cases hl : choN 4096 n.sets ≤ 4096
      · have T1 : decide (4096 < choN 4096 n.sets) = false := decide_eq_false (by omega)
        have Hl := Lib.hid hl
        go_wp2_with fail
        go_ret
        exact ⟨by rw [hbq.out, codeE_ok Hok.out Hl.out]; rfl, (by repeat (first | exact Ext.refl _ | assumption | refine Ext.alloc ?_ _ | refine Ext.drew ?_ | refine Ext.drewN ?_ _ | refine Ext.setCell ?_ (by first | (simp; done) | (simp; omega) | omega) _ | refine Ext.trans ?_ (by assumption)))⟩
      · have T1 : decide (4096 < choN 4096 n.sets) = true := decide_eq_true (by omega)
        have Hl := Lib.hid hl
        go_wp2_with fail
        go_ret
        exact ⟨by rw [hbq.out, codeE_big Hok.out (show ¬ choN 4096 n.sets ≤ 4096 by have := Hl.out; omega)]; rfl, (by repeat (first | exact Ext.refl _ | assumption | refine Ext.alloc ?_ _ | refine Ext.drew ?_ | refine Ext.drewN ?_ _ | refine Ext.setCell ?_ (by first | (simp; done) | (simp; omega) | omega) _ | refine Ext.trans ?_ (by assumption)))⟩
    · have Hq := Lib.hid hq
      rw [B_true (Classical.byContradiction fun hh => hq (varsOk_iff.1 hh))]
      have hbq := Lib.hid (B_false hq)
      clear hq
      go_wp2_with fail
      go_ret
      exact ⟨by rw [hbq.out, codeE_bad Hok.out]; rfl, (by repeat (first | exact Ext.refl _ | assumption | refine Ext.alloc ?_ _ | refine Ext.drew ?_ | refine Ext.drewN ?_ _ | refine Ext.setCell ?_ (by first | (simp; done) | (simp; omega) | omega) _ | refine Ext.trans ?_ (by assumption)))⟩
  · have Hok := Lib.hid hok
    clear hok
    rw [B_false Hok.out]
    go_wp2_with fail
    go_ret
    exact ⟨by rw [codeE_net Hok.out]; rfl, (by repeat (first | exact Ext.refl _ | assumption | refine Ext.alloc ?_ _ | refine Ext.drew ?_ | refine Ext.drewN ?_ _ | refine Ext.setCell ?_ (by first | (simp; done) | (simp; omega) | omega) _ | refine Ext.trans ?_ (by assumption)))⟩
end Go.Proofs.Ytfajmlkiidnhlaa
