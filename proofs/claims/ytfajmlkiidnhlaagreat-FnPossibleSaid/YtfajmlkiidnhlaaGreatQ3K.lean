/- Texts merged (a claim holds at most sixty files): K, M, P, Kc. -/
import Derived.Test.YtfajmlkiidnhlaaGreatQ3G
import Derived.Test.YtfajmlkiidnhlaaGreatQ3E
/- Contracts: links that are broken; DoSolve; EmptyVariables. -/
namespace Go.Proofs.YtfajmlkiidnhlaaGreat
set_option linter.unusedVariables false
set_option linter.unusedSimpArgs false
open Go.RowKit
attribute [local go_sem] cell_onto

/-- a link's two days, in memory -/
theorem link_days {w : World} {A : Option Addr} {c m : Nat} {ds : List Int} {n : Nat} {l : Lk} (h : Ints w 0 w.heap.size (.slice A m c) ds) (hl : LkOk l n) (hn : ds.length = n) (hd : DaysOk ds) :
    ∃ b off, A = some ⟨b, off, none⟩ ∧ b < w.heap.size ∧ w.cell? ⟨b, off + l.af.toNat, none⟩ = some (.int .i64 (inAt ds l.af.toNat)) ∧ w.cell? ⟨b, off + l.be.toNat, none⟩ = some (.int .i64 (inAt ds l.be.toNat)) ∧
      DayOk (inAt ds l.af.toNat) ∧ DayOk (inAt ds l.be.toNat) := by
  obtain ⟨⟨a1, a2⟩, ⟨b1, b2⟩, _⟩ := hl
  obtain ⟨b, off, e, _, hb, h1⟩ := h.at_ (i := l.af.toNat) (by omega)
  obtain ⟨b', off', e', _, _, h2⟩ := h.at_ (i := l.be.toNat) (by omega)
  rw [e] at e'
  injection e' with e'
  injection e' with e1 e2
  subst e1 e2
  exact ⟨b, off, e, hb, h1, h2, hd _ (by omega), hd _ (by omega)⟩

set_option maxHeartbeats 2000000 in
theorem impl_brokenLinks (s k v : Value) (n : Net) (ds : List Int) (w : World) (h : NetIn w s k n) (hd : Ints w 0 w.heap.size v ds) (hok : NetOk n) (hl : ds.length = n.sets.length) (hds : DaysOk ds) :
    Calls Tryz.prog 63 #[.agg #[s, k], v] w (NewRow 1 (brokenL n ds).length (intCell (brokenL n ds)) w) := by
  obtain ⟨A, c, rfl, hn, hc⟩ := h.2.len
  obtain ⟨Ad, cd, rfl, hnd, hcd⟩ := hd.len
  have H := Lib.hid h
  have Hd := Lib.hid hd
  have Hok := Lib.hid hok
  have Hl := Lib.hid hl
  have Hds := Lib.hid hds
  have h20 := hok.2.1
  clear h hd hok hl hds
  go_enter Tryz.func63, Tryz.ntmps63
  go_wp2_with fail
  go_loopg [5, 12] n.links.length (fun q u i wr => ∃ j : Nat, j + q = n.links.length ∧ i = .int .i64 j ∧ Ext w wr ∧
    wr.ownsRow w.heap.size 2 1 u (notTo (fun i => Holds (lkAt n.links i) ds) j).length ((notTo (fun i => Holds (lkAt n.links i) ds) j).map (Value.int .i64)))
  case atStart =>
    refine ⟨0, by omega, rfl, (by repeat (first | exact Ext.refl _ | assumption | refine Ext.alloc ?_ _ | refine Ext.drew ?_ | refine Ext.drewN ?_ _ | refine Ext.setCell ?_ (by first | (simp; done) | (simp; omega) | omega) _ | refine Ext.trans ?_ (by assumption))), ?_⟩
    have := World.ownsRow_made (base := w.heap.size) (e := 2) (size := 1) (w.alloc (.cells #[s, .slice A n.links.length c] 27)) #[] 0 (by simp) (Nat.zero_le _) rfl
    simpa [notTo] using this
  case round =>
    obtain ⟨j, hj, rfl, hx, hown⟩ := hrel
    have Hown := Lib.hid hown
    clear hown
    by_cases hlt : j < n.links.length
    · obtain ⟨b, off, rfl, _, hbl, h1, h2, h3, h4⟩ := (H.out.2.ext hx (Nat.le_refl _)).at_ hlt
      obtain ⟨b', off', rfl, hb', g1, g2, d1, d2⟩ := link_days (Hd.out.up hx) (Hok.out.2.2.2 j hlt) Hl.out Hds.out
      have hlk := Hok.out.2.2.2 j hlt
      obtain ⟨⟨l1, l2⟩, ⟨l3, l4⟩, _, ⟨l5, l6⟩, ⟨l7, l8⟩, _⟩ := hlk
      have hl2 := Hl.out
      unfold DayOk at d1 d2
      obtain ⟨d11, d12⟩ := d1
      obtain ⟨d21, d22⟩ := d2
      have hb1 : b' < wr.heap.size + 1 := by omega
      have k1 : (lkAt n.links j).af < (ds.length : Int) := by omega
      have k2 : (lkAt n.links j).be < (ds.length : Int) := by omega
      clear hl2
      by_cases hh : Holds (lkAt n.links j) ds
      · have Hh := Lib.hid hh
        have Hb := Lib.hid (B_true (p := (lkAt n.links j).le ≤ inAt ds (lkAt n.links j).af.toNat - inAt ds (lkAt n.links j).be.toNat ∧ inAt ds (lkAt n.links j).af.toNat - inAt ds (lkAt n.links j).be.toNat ≤ (lkAt n.links j).mo) hh)
        clear hh
        go_wp2_with fail
        (refine wp_region_onto prog_mixed (by kernel_rfl) ?_; (repeat (go_big_quiet_step ((go_at_call 80; exact onto_callS (impl_within_b Hb.out _))))); refine onto_end ?_; intro w1 hx1)
        go_wp2_with fail
        go_roundg (n.links.length - (j + 1))
        case measure => omega
        case rel => exact ⟨j + 1, by omega, by go_num, (by repeat (first | exact Ext.refl _ | assumption | refine Ext.alloc ?_ _ | refine Ext.drew ?_ | refine Ext.drewN ?_ _ | refine Ext.setCell ?_ (by first | (simp; done) | (simp; omega) | omega) _ | refine Ext.trans ?_ (by assumption))), by rw [notTo_yes (p := fun i => Holds (lkAt n.links i) ds) Hh.out]; exact row_ext Hown.out (by repeat (first | exact Ext.refl _ | assumption | refine Ext.alloc ?_ _ | refine Ext.drew ?_ | refine Ext.drewN ?_ _ | refine Ext.setCell ?_ (by first | (simp; done) | (simp; omega) | omega) _ | refine Ext.trans ?_ (by assumption)))⟩
      · have Hh := Lib.hid hh
        have Hb := Lib.hid (B_false (p := (lkAt n.links j).le ≤ inAt ds (lkAt n.links j).af.toNat - inAt ds (lkAt n.links j).be.toNat ∧ inAt ds (lkAt n.links j).af.toNat - inAt ds (lkAt n.links j).be.toNat ≤ (lkAt n.links j).mo) hh)
        have Hlen := Lib.hid (notTo_len (fun i => Holds (lkAt n.links i) ds) j)
        clear hh
        go_wp2_with fail
        (refine wp_region_onto prog_mixed (by kernel_rfl) ?_; (repeat (go_big_quiet_step ((go_at_call 80; exact onto_callS (impl_within_b Hb.out _))))); refine onto_end ?_; intro w1 hx1)
        have hxw : Ext wr w1 := (by repeat (first | exact Ext.refl _ | assumption | refine Ext.alloc ?_ _ | refine Ext.drew ?_ | refine Ext.drewN ?_ _ | refine Ext.setCell ?_ (by first | (simp; done) | (simp; omega) | omega) _ | refine Ext.trans ?_ (by assumption)))
        have hxr : Ext w w1 := hx.trans hxw
        clear hx1
        go_wp2_with (at_builtin; refine wpList_append_box _ rfl _ _ 31 rfl w.heap.size 2 1 8 Tryz.underlying31 (by kernel_rfl) (by omega) _ _ _ rfl (row_ext (row_ext Hown.out hxw) ((Ext.refl _).alloc _)) w1.heap.size [.int .i64 j] rfl (Boxed.new w1 [.int .i64 j] 2) rfl (by simp [Value.oneCell']) (by have := Hlen.out; unfold maxLen; omega) (by have := Hlen.out; omega) (by have := hxr.size; simp; omega) ?_; intro v' w2 hown' hgr)
        have Hgr := Lib.hid (Ext.grown (hxr.alloc (.cells #[.int .i64 j] 2)) hgr (row_ext (row_ext Hown.out hxw) ((Ext.refl _).alloc _)) (Nat.le_refl _))
        have Hown' := Lib.hid hown'
        clear hown' hgr
        go_wp2_with fail
        go_roundg (n.links.length - (j + 1))
        case measure => omega
        case rel => exact ⟨j + 1, by omega, by go_num, Hgr.out, by rw [notTo_no (p := fun i => Holds (lkAt n.links i) ds) Hh.out, List.length_append, List.map_append]; exact Hown'.out⟩
    · obtain rfl : j = n.links.length := by omega
      go_wp2_with fail
      go_ret
      obtain ⟨g, hg, ho⟩ := Own.of_row (f := intCell (brokenL n ds)) Hown.out (intCells _)
      exact ⟨_, g, rfl, (by repeat (first | exact Ext.refl _ | assumption | refine Ext.alloc ?_ _ | refine Ext.drew ?_ | refine Ext.drewN ?_ _ | refine Ext.setCell ?_ (by first | (simp; done) | (simp; omega) | omega) _ | refine Ext.trans ?_ (by assumption))), hg, ho⟩
end Go.Proofs.YtfajmlkiidnhlaaGreat

/- Contracts: the program's DoSolve; EmptyVariables. -/
namespace Go.Proofs.YtfajmlkiidnhlaaGreat
set_option linter.unusedVariables false
set_option linter.unusedSimpArgs false
open Go.RowKit
attribute [local go_sem] cell_onto

theorem NewRow.nil (sz : Nat) (f : Nat → Value) (w : World) : NewRow sz 0 f w (.returned (.slice none 0 0)) w :=
  ⟨_, 0, rfl, Ext.refl _, fun h => absurd h (by omega), Nat.zero_le _, none, 0, rfl, Nat.le_refl _, fun h => absurd h (by omega)⟩

set_option maxHeartbeats 1000000 in
theorem impl_DoSolve (s k v : Value) (n : Net) (ds : List Int) (w : World) (h : NetIn w s k n) (hd : Ints w 0 w.heap.size v ds) :
    Calls Tryz.prog 16 #[.agg #[s, k], v] w (RetX (.tuple #[.bool (solvB n ds), .int .i64 (dayE n ds)]) w) := by
  obtain ⟨A, c, rfl, hn, hc⟩ := h.1.len
  obtain ⟨Ad, cd, rfl, hnd, hcd⟩ := hd.len
  have H := Lib.hid h
  have Hd := Lib.hid hd
  clear h hd
  go_enter Tryz.func16, Tryz.ntmps16
  go_wp2_with fail
  refine Calls.mono (impl_checkDays _ k _ n ds _ (H.out.up (by repeat (first | exact Ext.refl _ | assumption | refine Ext.alloc ?_ _ | refine Ext.drew ?_ | refine Ext.drewN ?_ _ | refine Ext.setCell ?_ (by first | (simp; done) | (simp; omega) | omega) _ | refine Ext.trans ?_ (by assumption)))) (Hd.out.up (by repeat (first | exact Ext.refl _ | assumption | refine Ext.alloc ?_ _ | refine Ext.drew ?_ | refine Ext.drewN ?_ _ | refine Ext.setCell ?_ (by first | (simp; done) | (simp; omega) | omega) _ | refine Ext.trans ?_ (by assumption))))) ?_
  rintro e w1 ⟨rfl, hx1⟩
  have hb := (Boxed.new w [.slice A n.sets.length c, k] 27).ext hx1; have hb0 := hb.at0; have hb1 := hb.at1; have hbg := hb.1; have Hhb := Lib.hid hb; clear hb
  have hx : Ext w w1 := (by repeat (first | exact Ext.refl _ | assumption | refine Ext.alloc ?_ _ | refine Ext.drew ?_ | refine Ext.drewN ?_ _ | refine Ext.setCell ?_ (by first | (simp; done) | (simp; omega) | omega) _ | refine Ext.trans ?_ (by assumption)))
  clear hx1
  by_cases hok : NetOk n
  · have Hok := Lib.hid hok
    clear hok
    by_cases hq : ds.length = n.sets.length ∧ DaysOk ds
    · have Hq := Lib.hid hq
      have hle : ds.length ≤ n.sets.length := by omega
      have hle' : n.sets.length ≤ ds.length := by omega
      clear hq
      have He := Lib.hid (dayE_ok Hok.out Hq.out)
      rw [He.out]
      go_wp2_with fail
      go_loopg [18] n.sets.length (fun q i wr => ∃ j : Nat, j + q = n.sets.length ∧ i = .int .i64 j ∧ Ext w wr ∧ Boxed wr w.heap.size [.slice A n.sets.length c, k] ∧ ∀ i, i < j → HasDay (setAt n.sets i) (inAt ds i))
      case atStart => exact ⟨0, by omega, rfl, (by repeat (first | exact Ext.refl _ | assumption | refine Ext.alloc ?_ _ | refine Ext.drew ?_ | refine Ext.drewN ?_ _ | refine Ext.setCell ?_ (by first | (simp; done) | (simp; omega) | omega) _ | refine Ext.trans ?_ (by assumption))), Hhb.out, fun i hi => absurd hi (by omega)⟩
      case round =>
        obtain ⟨j, hj, rfl, hxr, hbb, hhas⟩ := hrel
        have hb := hbb; have hb0 := hb.at0; have hb1 := hb.at1; have hbg := hb.1; have Hhb := Lib.hid hb; clear hb
        have Hhas := Lib.hid hhas
        clear hbb hhas
        by_cases hlt : j < n.sets.length
        · obtain ⟨b, off, u, rfl, _, hbl, h1, h2⟩ := (H.out.1.ext hxr (Nat.le_refl _)).at_ hlt
          obtain ⟨b', off', rfl, _, hbl', h1'⟩ := (Hd.out.ext hxr (Nat.le_refl _)).at_ (i := j) (by omega)
          have hjd : j < ds.length := by omega
          have Hu := Lib.hid (h2.mono (Nat.le_refl 0) hxr.size)
          clear h2
          by_cases hq : HasDay (setAt n.sets j) (inAt ds j)
          · have Hh := Lib.hid hq
            have Hqb := Lib.hid (B_true hq)
            clear hq
            go_wp2_with fail
            refine Calls.mono (impl_hasDay u _ _ wr Hu.out) ?_
            rintro e w2 ⟨rfl, hx2⟩
            rw [Hqb.out]
            go_wp2_with fail
            go_roundg (n.sets.length - (j + 1))
            case measure => omega
            case rel => exact ⟨j + 1, by omega, by go_num, (by repeat (first | exact Ext.refl _ | assumption | refine Ext.alloc ?_ _ | refine Ext.drew ?_ | refine Ext.drewN ?_ _ | refine Ext.setCell ?_ (by first | (simp; done) | (simp; omega) | omega) _ | refine Ext.trans ?_ (by assumption))), Hhb.out.ext hx2, netOk_step (P := fun i => HasDay (setAt n.sets i) (inAt ds i)) Hhas.out Hh.out⟩
          · have Hh := Lib.hid hq
            have Hqb := Lib.hid (B_false hq)
            clear hq
            go_wp2_with fail
            refine Calls.mono (impl_hasDay u _ _ wr Hu.out) ?_
            rintro e w2 ⟨rfl, hx2⟩
            rw [Hqb.out]
            go_wp2_with fail
            go_ret2
            refine ⟨?_, (by repeat (first | exact Ext.refl _ | assumption | refine Ext.alloc ?_ _ | refine Ext.drew ?_ | refine Ext.drewN ?_ _ | refine Ext.setCell ?_ (by first | (simp; done) | (simp; omega) | omega) _ | refine Ext.trans ?_ (by assumption)))⟩
            rw [show solvB n ds = false from B_false (fun h => Hh.out (h.2.1 j hjd)), He.out]
            rfl
        · obtain rfl : j = n.sets.length := by omega
          go_wp2_with fail
          refine Calls.mono (impl_brokenLinks _ k _ n ds wr (H.out.up hxr) (Hd.out.up hxr) Hok.out Hq.out.1 Hq.out.2) ?_
          rintro e w2 ⟨v2, g2, rfl, hx2, hg2, ho2⟩
          obtain ⟨A2, c2, rfl⟩ := ho2.len
          have hlen := notTo_len (fun i => Holds (lkAt n.links i) ds) n.links.length
          have Hlen : (brokenL n ds).length ≤ 20 := by have := Hok.out.2.1; unfold brokenL; omega
          have Hnil := Lib.hid (notTo_nil (p := fun i => Holds (lkAt n.links i) ds) n.links.length)
          clear ho2 hg2 hlen
          by_cases hz : (brokenL n ds).length = 0
          · have hzb : (((brokenL n ds).length : Int) == 0) = true := by rw [beq_iff_eq]; omega
            have Hz := Lib.hid hz
            have Hzb := Lib.hid hzb
            clear hz hzb
            rw [Hz.out]
            go_wp2_with fail
            go_ret2
            refine ⟨?_, (by repeat (first | exact Ext.refl _ | assumption | refine Ext.alloc ?_ _ | refine Ext.drew ?_ | refine Ext.drewN ?_ _ | refine Ext.setCell ?_ (by first | (simp; done) | (simp; omega) | omega) _ | refine Ext.trans ?_ (by assumption)))⟩
            rw [show solvB n ds = true from B_true ⟨He.out, fun i hi => Hhas.out i (by omega), (Hnil.out.1 Hz.out)⟩, He.out]
            rfl
          · have hzb : (((brokenL n ds).length : Int) == 0) = false := beq_eq_false_iff_ne.2 (by omega)
            have Hz := Lib.hid hz
            clear hz
            go_wp2_with fail
            go_ret2
            refine ⟨?_, (by repeat (first | exact Ext.refl _ | assumption | refine Ext.alloc ?_ _ | refine Ext.drew ?_ | refine Ext.drewN ?_ _ | refine Ext.setCell ?_ (by first | (simp; done) | (simp; omega) | omega) _ | refine Ext.trans ?_ (by assumption)))⟩
            rw [show solvB n ds = false from B_false (fun h => Hz.out (Hnil.out.2 h.2.2)), He.out]
            rfl
    · have Hq := Lib.hid hq
      clear hq
      have He := Lib.hid (dayE_bad Hok.out Hq.out)
      rw [He.out]
      go_wp2_with fail
      go_ret2
      refine ⟨?_, (by repeat (first | exact Ext.refl _ | assumption | refine Ext.alloc ?_ _ | refine Ext.drew ?_ | refine Ext.drewN ?_ _ | refine Ext.setCell ?_ (by first | (simp; done) | (simp; omega) | omega) _ | refine Ext.trans ?_ (by assumption)))⟩
      rw [show solvB n ds = false from B_false (fun h => by have := h.1; rw [He.out] at this; omega), He.out]
      rfl
  · have Hok := Lib.hid hok
    clear hok
    have He := Lib.hid (dayE_net (ds := ds) Hok.out)
    rw [He.out]
    go_wp2_with fail
    go_ret2
    refine ⟨?_, (by repeat (first | exact Ext.refl _ | assumption | refine Ext.alloc ?_ _ | refine Ext.drew ?_ | refine Ext.drewN ?_ _ | refine Ext.setCell ?_ (by first | (simp; done) | (simp; omega) | omega) _ | refine Ext.trans ?_ (by assumption)))⟩
    rw [show solvB n ds = false from B_false (fun h => by have := h.1; rw [He.out] at this; omega), He.out]
    rfl

/-- what a function returns that gives a list in new memory, and a code -/
def NewInts2 (l : List Int) (e0 : Int) (w : World) (e : Ending) (w' : World) : Prop :=
  ∃ v g, e = .returned (.tuple #[v, .int .i64 e0]) ∧ Ext w w' ∧ (0 < l.length → w.heap.size ≤ g) ∧ Own w' g 1 v l.length (intCell l)
theorem NewInts2.nil (e0 : Int) {w w' : World} (h : Ext w w') : NewInts2 [] e0 w (.returned (.tuple #[.slice none 0 0, .int .i64 e0])) w' :=
  ⟨_, 0, rfl, h, fun h => absurd h (by simp), Nat.zero_le _, none, 0, rfl, Nat.le_refl _, fun h => absurd h (by simp)⟩
noncomputable def emptyV (n : Net) : List Int := bif B (NetOk n) then emptyL n else []
theorem emptyV_ok {n : Net} (h : NetOk n) : emptyV n = emptyL n := by unfold emptyV; rw [B_true h]; rfl
theorem emptyV_no {n : Net} (h : ¬ NetOk n) : emptyV n = [] := by unfold emptyV; rw [B_false h]; rfl
theorem emptyV_small (n : Net) (h : Small n) : (emptyV n).length ≤ 1048576 := by
  by_cases hk : NetOk n
  · rw [emptyV_ok hk]
    exact Nat.le_trans (notTo_len _ _) h.1
  · rw [emptyV_no hk]
    exact Nat.zero_le _


end Go.Proofs.YtfajmlkiidnhlaaGreat

/- Contracts: the program's and the reference's BrokenLinks. -/
namespace Go.Proofs.YtfajmlkiidnhlaaGreat
set_option linter.unusedVariables false
set_option linter.unusedSimpArgs false
open Go.RowKit
attribute [local go_sem] cell_onto

noncomputable def brokenV (n : Net) (ds : List Int) : List Int := bif B (dayE n ds = 0) then brokenL n ds else []
theorem brokenV_ok {n : Net} {ds : List Int} (h : dayE n ds = 0) : brokenV n ds = brokenL n ds := by unfold brokenV; rw [B_true h]; rfl
theorem brokenV_no {n : Net} {ds : List Int} (h : ¬ dayE n ds = 0) : brokenV n ds = [] := by unfold brokenV; rw [B_false h]; rfl
theorem brokenV_small (n : Net) (ds : List Int) (h : Small n) : (brokenV n ds).length ≤ 1048576 := by
  by_cases hk : dayE n ds = 0
  · rw [brokenV_ok hk]
    exact Nat.le_trans (notTo_len _ _) h.2.1
  · rw [brokenV_no hk]
    exact Nat.zero_le _


end Go.Proofs.YtfajmlkiidnhlaaGreat

/- Contracts: the program's checkChoices. -/
namespace Go.Proofs.YtfajmlkiidnhlaaGreat
set_option linter.unusedVariables false
set_option linter.unusedSimpArgs false
open Go.RowKit
attribute [local go_sem] cell_onto

def VarsOk (n : Net) (vs : List Int) : Prop := ∀ i, i < vs.length → 0 ≤ inAt vs i ∧ inAt vs i ≤ (n.sets.length : Int) - 1
theorem varsOk_iff {n : Net} {vs : List Int} : ¬ Some_ vs.length (fun i => ¬ (0 ≤ inAt vs i ∧ inAt vs i ≤ (n.sets.length : Int) - 1)) ↔ VarsOk n vs := by
  unfold Some_ VarsOk
  constructor
  · intro h i hi
    exact Classical.byContradiction fun hn => h ⟨i, hi, hn⟩
  · rintro h ⟨i, hi, hn⟩
    exact hn (h i hi)
theorem codeE_net {n : Net} {b : Bool} (h : ¬ NetOk n) : codeE n b = 1 := by unfold codeE; rw [B_false h]; rfl
theorem codeE_bad {n : Net} (h : NetOk n) : codeE n false = 2 := by unfold codeE; rw [B_true h]; rfl
theorem codeE_big {n : Net} (h : NetOk n) (h2 : ¬ choN 4096 n.sets ≤ 4096) : codeE n true = 3 := by unfold codeE; rw [B_true h, B_false h2]; rfl
theorem codeE_ok {n : Net} (h : NetOk n) (h2 : choN 4096 n.sets ≤ 4096) : codeE n true = 0 := by unfold codeE; rw [B_true h, B_true h2]; rfl
theorem codeE_zero {n : Net} {b : Bool} (h : codeE n b = 0) : NetOk n ∧ b = true ∧ choN 4096 n.sets ≤ 4096 := by
  by_cases h1 : NetOk n
  · cases b
    · rw [codeE_bad h1] at h; omega
    · by_cases h2 : choN 4096 n.sets ≤ 4096
      · exact ⟨h1, rfl, h2⟩
      · rw [codeE_big h1 h2] at h; omega
  · rw [codeE_net h1] at h; omega

set_option maxHeartbeats 400000 in
theorem impl_checkChoices_1 (d : Int) (gN m : Nat) (A : Option Addr) (c : Nat) (w : World) (h : w.cell? ⟨gN, 0, none⟩ = some (.slice A m c)) (hg : gN < w.heap.size) (hm : m ≤ 1048576) :
    Calls Tryz.prog 92 #[.int .i64 d, .pointer (some ⟨gN, 0, none⟩)] w (RetX (.bool (B (¬ (0 ≤ d ∧ d ≤ (m : Int) - 1)))) w) := by
  go_enter Tryz.func92, Tryz.ntmps92
  go_wp2_with (go_at_call 80; refine (impl_within _ _ _ _).mono ?_; rintro e w1 ⟨rfl, rfl⟩)
  (go_ret; exact ⟨ret_bool (B_eq (by simp [B_not])), (by repeat (first | exact Ext.refl _ | assumption | refine Ext.alloc ?_ _ | refine Ext.drew ?_ | refine Ext.drewN ?_ _ | refine Ext.setCell ?_ (by first | (simp; done) | (simp; omega) | omega) _ | refine Ext.trans ?_ (by assumption)))⟩)
set_option maxHeartbeats 1000000 in
theorem impl_checkChoices (s k v : Value) (n : Net) (vs : List Int) (w : World) (h : NetIn w s k n) (hd : Ints w 0 w.heap.size v vs) :
    Calls Tryz.prog 39 #[.agg #[s, k], v] w (RetX (.int .i64 (codeE n (B (VarsOk n vs)))) w) := by
  obtain ⟨A, c, rfl, hn, hc⟩ := h.1.len
  obtain ⟨A', c', rfl, hn', hc'⟩ := hd.len
  have H := Lib.hid h
  have Hd := Lib.hid hd
  clear h hd
  go_enter Tryz.func39, Tryz.ntmps39
  go_wp2_with fail
  refine Calls.mono (impl_IsNetwork _ k n _ (H.out.up (by repeat (first | exact Ext.refl _ | assumption | refine Ext.alloc ?_ _ | refine Ext.drew ?_ | refine Ext.drewN ?_ _ | refine Ext.setCell ?_ (by first | (simp; done) | (simp; omega) | omega) _ | refine Ext.trans ?_ (by assumption))))) ?_
  rintro e w1 ⟨rfl, hx1⟩
  have hb := (Boxed.new w [.slice A n.sets.length c, k] 27).ext hx1; have hb0 := hb.at0; have hb1 := hb.at1; have hbg := hb.1; have Hhb := Lib.hid hb; clear hb
  have hx : Ext w w1 := (by repeat (first | exact Ext.refl _ | assumption | refine Ext.alloc ?_ _ | refine Ext.drew ?_ | refine Ext.drewN ?_ _ | refine Ext.setCell ?_ (by first | (simp; done) | (simp; omega) | omega) _ | refine Ext.trans ?_ (by assumption)))
  clear hx1
  by_cases hok : NetOk n
  · have Hok := Lib.hid hok
    have hbd := choN_bd n.sets
    have hm8 : n.sets.length ≤ 1048576 := by have := hok.1; omega
    have Hbx : Hid (Boxed w1 w.heap.size [.slice A n.sets.length c, k]) := Lib.hid Hhb.out
    clear hok
    rw [B_true Hok.out]
    go_wp2_with fail
    refine Calls.mono (containsFunc_ints _ vs 92 #[.pointer (some ⟨w.heap.size, 0, none⟩)] (fun i => ¬ (0 ≤ inAt vs i ∧ inAt vs i ≤ (n.sets.length : Int) - 1)) w1 (Hd.out.up hx) Tryz.call92 (fun i w' _ hx' => impl_checkChoices_1 _ w.heap.size n.sets.length A c w' (Hbx.out.ext hx').at0 (Hbx.out.ext hx').1 hm8)) ?_
    rintro e w2 ⟨rfl, hx2⟩
    by_cases hq : VarsOk n vs
    · have Hq := Lib.hid hq
      rw [B_false (fun hh => varsOk_iff.2 hq hh)]
      have hbq := Lib.hid (B_true hq)
      have hd := Hbx.out.ext hx2; have hd0 := hd.at0; have hd1 := hd.at1; have hdg := hd.1; have Hhd := Lib.hid hd; clear hd
      clear hq hb0 hb1 hbg Hhb Hbx
      go_wp2_with fail
      refine Calls.mono (impl_countChoices _ k n w2 (H.out.up (by repeat (first | exact Ext.refl _ | assumption | refine Ext.alloc ?_ _ | refine Ext.drew ?_ | refine Ext.drewN ?_ _ | refine Ext.setCell ?_ (by first | (simp; done) | (simp; omega) | omega) _ | refine Ext.trans ?_ (by assumption)))) 4096 (by omega) (by omega) (SetsFit.of Hok.out)) ?_
      rintro e w3 ⟨rfl, hx3⟩
      by_cases hl : choN 4096 n.sets ≤ 4096
      · have T1 : decide (4096 < choN 4096 n.sets) = false := decide_eq_false (by omega)
        have Hl := Lib.hid hl
        go_wp2_with fail
        go_ret
        exact ⟨by rw [hbq.out, codeE_ok Hok.out Hl.out]; rfl, (by repeat (first | exact Ext.refl _ | assumption | refine Ext.alloc ?_ _ | refine Ext.drew ?_ | refine Ext.drewN ?_ _ | refine Ext.setCell ?_ (by first | (simp; done) | (simp; omega) | omega) _ | refine Ext.trans ?_ (by assumption)))⟩
      · have T1 : decide (4096 < choN 4096 n.sets) = true := decide_eq_true (by omega)
        have Hl := Lib.hid hl
        go_wp2_with fail
        go_ret
        exact ⟨by rw [hbq.out, codeE_big Hok.out (show ¬ choN 4096 n.sets ≤ 4096 by have := Hl.out; omega)]; rfl, (by repeat (first | exact Ext.refl _ | assumption | refine Ext.alloc ?_ _ | refine Ext.drew ?_ | refine Ext.drewN ?_ _ | refine Ext.setCell ?_ (by first | (simp; done) | (simp; omega) | omega) _ | refine Ext.trans ?_ (by assumption)))⟩
    · have Hq := Lib.hid hq
      rw [B_true (Classical.byContradiction fun hh => hq (varsOk_iff.1 hh))]
      have hbq := Lib.hid (B_false hq)
      clear hq
      go_wp2_with fail
      go_ret
      exact ⟨by rw [hbq.out, codeE_bad Hok.out]; rfl, (by repeat (first | exact Ext.refl _ | assumption | refine Ext.alloc ?_ _ | refine Ext.drew ?_ | refine Ext.drewN ?_ _ | refine Ext.setCell ?_ (by first | (simp; done) | (simp; omega) | omega) _ | refine Ext.trans ?_ (by assumption)))⟩
  · have Hok := Lib.hid hok
    clear hok
    rw [B_false Hok.out]
    go_wp2_with fail
    go_ret
    exact ⟨by rw [codeE_net Hok.out]; rfl, (by repeat (first | exact Ext.refl _ | assumption | refine Ext.alloc ?_ _ | refine Ext.drew ?_ | refine Ext.drewN ?_ _ | refine Ext.setCell ?_ (by first | (simp; done) | (simp; omega) | omega) _ | refine Ext.trans ?_ (by assumption)))⟩
end Go.Proofs.YtfajmlkiidnhlaaGreat
