/- Contracts: the program's DoSolve; EmptyVariables. -/
import Derived.Test.YtfajmlkiidnhlaaK
namespace Go.Proofs.Ytfajmlkiidnhlaa
set_option linter.unusedVariables false
set_option linter.unusedSimpArgs false
open Go.RowKit
attribute [local go_sem] cell_onto

theorem NewRow.nil (sz : Nat) (f : Nat → Value) (w : World) : NewRow sz 0 f w (.returned (.slice none 0 0)) w :=
  ⟨_, 0, rfl, Ext.refl _, fun h => absurd h (by omega), Nat.zero_le _, none, 0, rfl, Nat.le_refl _, fun h => absurd h (by omega)⟩

set_option maxHeartbeats 1000000 in
theorem impl_DoSolve (s k v : Value) (n : Net) (ds : List Int) (w : World) (h : NetIn w s k n) (hd : Ints w 0 w.heap.size v ds) :
    Calls Try.prog 12 #[.agg #[s, k], v] w (RetX (.tuple #[.bool (solvB n ds), .int .i64 (dayE n ds)]) w) := by
  obtain ⟨A, c, rfl, hn, hc⟩ := h.1.len
  obtain ⟨Ad, cd, rfl, hnd, hcd⟩ := hd.len
  have H := Lib.hid h
  have Hd := Lib.hid hd
  clear h hd
  go_enter Try.func12, Try.ntmps12
  go_wp2_with fail
  refine Calls.mono (impl_checkDays _ k _ n ds _ (H.out.up (by repeat (first | exact Ext.refl _ | assumption | refine Ext.alloc ?_ _ | refine Ext.drew ?_ | refine Ext.drewN ?_ _ | refine Ext.setCell ?_ (by first | (simp; done) | (simp; omega) | omega) _ | refine Ext.trans ?_ (by assumption)))) (Hd.out.up (by repeat (first | exact Ext.refl _ | assumption | refine Ext.alloc ?_ _ | refine Ext.drew ?_ | refine Ext.drewN ?_ _ | refine Ext.setCell ?_ (by first | (simp; done) | (simp; omega) | omega) _ | refine Ext.trans ?_ (by assumption))))) ?_
  rintro e w1 ⟨rfl, hx1⟩
  have hb := (Boxed.new w [.slice A n.sets.length c, k] 27).ext hx1; have hb0 := hb.at0; have hb1 := hb.at1; have hbg := hb.1; have Hhb := Lib.hid hb; clear hb
  have hx : Ext w w1 := (by repeat (first | exact Ext.refl _ | assumption | refine Ext.alloc ?_ _ | refine Ext.drew ?_ | refine Ext.drewN ?_ _ | refine Ext.setCell ?_ (by first | (simp; done) | (simp; omega) | omega) _ | refine Ext.trans ?_ (by assumption)))
  clear hx1
  by_cases hok : NetOk n
  · have Hok := Lib.hid hok
    clear hok
    by_cases hq : ds.length = n.sets.length ∧ DaysOk ds
    · have Hq := Lib.hid hq
      have hle : ds.length ≤ n.sets.length := by omega
      have hle' : n.sets.length ≤ ds.length := by omega
      clear hq
      have He := Lib.hid (dayE_ok Hok.out Hq.out)
      rw [He.out]
      go_wp2_with fail
      go_loopg [18] n.sets.length (fun q i wr => ∃ j : Nat, j + q = n.sets.length ∧ i = .int .i64 j ∧ Ext w wr ∧ Boxed wr w.heap.size [.slice A n.sets.length c, k] ∧ ∀ i, i < j → HasDay (setAt n.sets i) (inAt ds i))
      case atStart => exact ⟨0, by omega, rfl, (by repeat (first | exact Ext.refl _ | assumption | refine Ext.alloc ?_ _ | refine Ext.drew ?_ | refine Ext.drewN ?_ _ | refine Ext.setCell ?_ (by first | (simp; done) | (simp; omega) | omega) _ | refine Ext.trans ?_ (by assumption))), Hhb.out, fun i hi => absurd hi (by omega)⟩
      case round =>
        obtain ⟨j, hj, rfl, hxr, hbb, hhas⟩ := hrel
        have hb := hbb; have hb0 := hb.at0; have hb1 := hb.at1; have hbg := hb.1; have Hhb := Lib.hid hb; clear hb
        have Hhas := Lib.hid hhas
        clear hbb hhas
        by_cases hlt : j < n.sets.length
        · obtain ⟨b, off, u, rfl, _, hbl, h1, h2⟩ := (H.out.1.ext hxr (Nat.le_refl _)).at_ hlt
          obtain ⟨b', off', rfl, _, hbl', h1'⟩ := (Hd.out.ext hxr (Nat.le_refl _)).at_ (i := j) (by omega)
          have hjd : j < ds.length := by omega
          have Hu := Lib.hid (h2.mono (Nat.le_refl 0) hxr.size)
          clear h2
          by_cases hq : HasDay (setAt n.sets j) (inAt ds j)
          · have Hh := Lib.hid hq
            have Hqb := Lib.hid (B_true hq)
            clear hq
            go_wp2_with fail
            refine Calls.mono (impl_hasDay u _ _ wr Hu.out) ?_
            rintro e w2 ⟨rfl, hx2⟩
            rw [Hqb.out]
            go_wp2_with fail
            go_roundg (n.sets.length - (j + 1))
            case measure => omega
            case rel => exact ⟨j + 1, by omega, by go_num, (by repeat (first | exact Ext.refl _ | assumption | refine Ext.alloc ?_ _ | refine Ext.drew ?_ | refine Ext.drewN ?_ _ | refine Ext.setCell ?_ (by first | (simp; done) | (simp; omega) | omega) _ | refine Ext.trans ?_ (by assumption))), Hhb.out.ext hx2, netOk_step (P := fun i => HasDay (setAt n.sets i) (inAt ds i)) Hhas.out Hh.out⟩
          · have Hh := Lib.hid hq
            have Hqb := Lib.hid (B_false hq)
            clear hq
            go_wp2_with fail
            refine Calls.mono (impl_hasDay u _ _ wr Hu.out) ?_
            rintro e w2 ⟨rfl, hx2⟩
            rw [Hqb.out]
            go_wp2_with fail
            go_ret2
            refine ⟨?_, (by repeat (first | exact Ext.refl _ | assumption | refine Ext.alloc ?_ _ | refine Ext.drew ?_ | refine Ext.drewN ?_ _ | refine Ext.setCell ?_ (by first | (simp; done) | (simp; omega) | omega) _ | refine Ext.trans ?_ (by assumption)))⟩
            rw [show solvB n ds = false from B_false (fun h => Hh.out (h.2.1 j hjd)), He.out]
            rfl
        · obtain rfl : j = n.sets.length := by omega
          go_wp2_with fail
          refine Calls.mono (impl_brokenLinks _ k _ n ds wr (H.out.up hxr) (Hd.out.up hxr) Hok.out Hq.out.1 Hq.out.2) ?_
          rintro e w2 ⟨v2, g2, rfl, hx2, hg2, ho2⟩
          obtain ⟨A2, c2, rfl⟩ := ho2.len
          have hlen := notTo_len (fun i => Holds (lkAt n.links i) ds) n.links.length
          have Hlen : (brokenL n ds).length ≤ 20 := by have := Hok.out.2.1; unfold brokenL; omega
          have Hnil := Lib.hid (notTo_nil (p := fun i => Holds (lkAt n.links i) ds) n.links.length)
          clear ho2 hg2 hlen
          by_cases hz : (brokenL n ds).length = 0
          · have hzb : (((brokenL n ds).length : Int) == 0) = true := by rw [beq_iff_eq]; omega
            have Hz := Lib.hid hz
            have Hzb := Lib.hid hzb
            clear hz hzb
            rw [Hz.out]
            go_wp2_with fail
            go_ret2
            refine ⟨?_, (by repeat (first | exact Ext.refl _ | assumption | refine Ext.alloc ?_ _ | refine Ext.drew ?_ | refine Ext.drewN ?_ _ | refine Ext.setCell ?_ (by first | (simp; done) | (simp; omega) | omega) _ | refine Ext.trans ?_ (by assumption)))⟩
            rw [show solvB n ds = true from B_true ⟨He.out, fun i hi => Hhas.out i (by omega), (Hnil.out.1 Hz.out)⟩, He.out]
            rfl
          · have hzb : (((brokenL n ds).length : Int) == 0) = false := beq_eq_false_iff_ne.2 (by omega)
            have Hz := Lib.hid hz
            clear hz
            go_wp2_with fail
            go_ret2
            refine ⟨?_, (by repeat (first | exact Ext.refl _ | assumption | refine Ext.alloc ?_ _ | refine Ext.drew ?_ | refine Ext.drewN ?_ _ | refine Ext.setCell ?_ (by first | (simp; done) | (simp; omega) | omega) _ | refine Ext.trans ?_ (by assumption)))⟩
            rw [show solvB n ds = false from B_false (fun h => Hz.out (Hnil.out.2 h.2.2)), He.out]
            rfl
    · have Hq := Lib.hid hq
      clear hq
      have He := Lib.hid (dayE_bad Hok.out Hq.out)
      rw [He.out]
      go_wp2_with fail
      go_ret2
      refine ⟨?_, (by repeat (first | exact Ext.refl _ | assumption | refine Ext.alloc ?_ _ | refine Ext.drew ?_ | refine Ext.drewN ?_ _ | refine Ext.setCell ?_ (by first | (simp; done) | (simp; omega) | omega) _ | refine Ext.trans ?_ (by assumption)))⟩
      rw [show solvB n ds = false from B_false (fun h => by have := h.1; rw [He.out] at this; omega), He.out]
      rfl
  · have Hok := Lib.hid hok
    clear hok
    have He := Lib.hid (dayE_net (ds := ds) Hok.out)
    rw [He.out]
    go_wp2_with fail
    go_ret2
    refine ⟨?_, (by repeat (first | exact Ext.refl _ | assumption | refine Ext.alloc ?_ _ | refine Ext.drew ?_ | refine Ext.drewN ?_ _ | refine Ext.setCell ?_ (by first | (simp; done) | (simp; omega) | omega) _ | refine Ext.trans ?_ (by assumption)))⟩
    rw [show solvB n ds = false from B_false (fun h => by have := h.1; rw [He.out] at this; omega), He.out]
    rfl

/-- what a function returns that gives a list in new memory, and a code -/
def NewInts2 (l : List Int) (e0 : Int) (w : World) (e : Ending) (w' : World) : Prop :=
  ∃ v g, e = .returned (.tuple #[v, .int .i64 e0]) ∧ Ext w w' ∧ (0 < l.length → w.heap.size ≤ g) ∧ Own w' g 1 v l.length (intCell l)
theorem NewInts2.nil (e0 : Int) {w w' : World} (h : Ext w w') : NewInts2 [] e0 w (.returned (.tuple #[.slice none 0 0, .int .i64 e0])) w' :=
  ⟨_, 0, rfl, h, fun h => absurd h (by simp), Nat.zero_le _, none, 0, rfl, Nat.le_refl _, fun h => absurd h (by simp)⟩
noncomputable def emptyV (n : Net) : List Int := bif B (NetOk n) then emptyL n else []
theorem emptyV_ok {n : Net} (h : NetOk n) : emptyV n = emptyL n := by unfold emptyV; rw [B_true h]; rfl
theorem emptyV_no {n : Net} (h : ¬ NetOk n) : emptyV n = [] := by unfold emptyV; rw [B_false h]; rfl
theorem emptyV_small (n : Net) (h : Small n) : (emptyV n).length ≤ 1048576 := by
  by_cases hk : NetOk n
  · rw [emptyV_ok hk]
    exact Nat.le_trans (notTo_len _ _) h.1
  · rw [emptyV_no hk]
    exact Nat.zero_le _

set_option maxHeartbeats 1000000 in
theorem impl_EmptyVariables (s k : Value) (n : Net) (w : World) (h : NetIn w s k n) : Calls Try.prog 52 #[.agg #[s, k]] w (NewInts2 (emptyV n) (netE n) w) := by
  obtain ⟨A, c, rfl, hn, hc⟩ := h.1.len
  have H := Lib.hid h
  clear h
  go_enter Try.func52, Try.ntmps52
  go_wp2_with fail
  refine Calls.mono (impl_IsNetwork _ k n _ (H.out.up (by repeat (first | exact Ext.refl _ | assumption | refine Ext.alloc ?_ _ | refine Ext.drew ?_ | refine Ext.drewN ?_ _ | refine Ext.setCell ?_ (by first | (simp; done) | (simp; omega) | omega) _ | refine Ext.trans ?_ (by assumption))))) ?_
  rintro e w1 ⟨rfl, hx1⟩
  have hb := (Boxed.new w [.slice A n.sets.length c, k] 27).ext hx1; have hb0 := hb.at0; have hb1 := hb.at1; have hbg := hb.1; have Hhb := Lib.hid hb; clear hb
  have hx : Ext w w1 := (by repeat (first | exact Ext.refl _ | assumption | refine Ext.alloc ?_ _ | refine Ext.drew ?_ | refine Ext.drewN ?_ _ | refine Ext.setCell ?_ (by first | (simp; done) | (simp; omega) | omega) _ | refine Ext.trans ?_ (by assumption)))
  clear hx1
  by_cases hok : NetOk n
  · have Hok := Lib.hid hok
    have h8 := hok.1
    clear hok
    rw [B_true Hok.out]
    go_wp2_with fail
    go_loopg [4, 14] n.sets.length (fun q u i wr => ∃ j : Nat, j + q = n.sets.length ∧ i = .int .i64 j ∧ Ext w wr ∧ Boxed wr w.heap.size [.slice A n.sets.length c, k] ∧
      wr.ownsRow (w.heap.size + 1) 2 1 u (notTo (fun i => (setAt n.sets i).length ≠ 0) j).length ((notTo (fun i => (setAt n.sets i).length ≠ 0) j).map (Value.int .i64)))
    case atStart =>
      refine ⟨0, by omega, rfl, (by repeat (first | exact Ext.refl _ | assumption | refine Ext.alloc ?_ _ | refine Ext.drew ?_ | refine Ext.drewN ?_ _ | refine Ext.setCell ?_ (by first | (simp; done) | (simp; omega) | omega) _ | refine Ext.trans ?_ (by assumption))), Hhb.out.ext (by repeat (first | exact Ext.refl _ | assumption | refine Ext.alloc ?_ _ | refine Ext.drew ?_ | refine Ext.drewN ?_ _ | refine Ext.setCell ?_ (by first | (simp; done) | (simp; omega) | omega) _ | refine Ext.trans ?_ (by assumption))), ?_⟩
      have := World.ownsRow_made (base := w.heap.size + 1) (e := 2) (size := 1) w1 #[] 0 hbg (Nat.zero_le _) rfl
      simpa [notTo] using this
    case round =>
      obtain ⟨j, hj, rfl, hxr, hbb, hown⟩ := hrel
      have hb := hbb; have hb0 := hb.at0; have hb1 := hb.at1; have hbg := hb.1; have Hhb := Lib.hid hb; clear hb
      have Hown := Lib.hid hown
      clear hown hbb
      by_cases hlt : j < n.sets.length
      · obtain ⟨b, off, u, rfl, _, hbl, h1, h2⟩ := (H.out.1.ext hxr (Nat.le_refl _)).at_ hlt
        obtain ⟨A2, c2, rfl, hn2, hc2⟩ := h2.len
        clear h2
        by_cases h0 : (setAt n.sets j).length ≠ 0
        · have hd : (((setAt n.sets j).length : Int) == 0) = false := beq_eq_false_iff_ne.2 (by omega)
          have H0 := Lib.hid h0
          clear h0
          go_wp2_with fail
          go_roundg (n.sets.length - (j + 1))
          case measure => omega
          case rel => exact ⟨j + 1, by omega, by go_num, (by repeat (first | exact Ext.refl _ | assumption | refine Ext.alloc ?_ _ | refine Ext.drew ?_ | refine Ext.drewN ?_ _ | refine Ext.setCell ?_ (by first | (simp; done) | (simp; omega) | omega) _ | refine Ext.trans ?_ (by assumption))), Hhb.out, by rw [notTo_yes (p := fun i => (setAt n.sets i).length ≠ 0) H0.out]; exact Hown.out⟩
        · have hd : (((setAt n.sets j).length : Int) == 0) = true := by rw [beq_iff_eq]; omega
          have H0 := Lib.hid h0
          have Hlen := Lib.hid (notTo_len (fun i => (setAt n.sets i).length ≠ 0) j)
          clear h0
          go_wp2_with (at_builtin; refine wpList_append_box _ rfl _ _ 28 rfl (w.heap.size + 1) 2 1 8 Try.underlying28 (by kernel_rfl) (by omega) _ _ _ rfl (row_ext Hown.out ((Ext.refl _).alloc _)) wr.heap.size [.int .i64 j] rfl (Boxed.new wr [.int .i64 j] 2) rfl (by simp [Value.oneCell']) (by have := Hlen.out; unfold maxLen; omega) (by have := Hlen.out; omega) (by simp; omega) ?_; intro v' w2 hown' hgr)
          have Hgr := Lib.hid (Ext.grown (hxr.alloc (.cells #[.int .i64 j] 2)) hgr (row_ext Hown.out ((Ext.refl _).alloc _)) (Nat.le_succ _))
          have Hbx := Lib.hid (Boxed.grown (Boxed.ext Hhb.out ((Ext.refl _).alloc (.cells #[.int .i64 j] 2))) hgr (row_ext Hown.out ((Ext.refl _).alloc _)) (Nat.lt_succ_self _))
          have Hown' := Lib.hid hown'
          clear hown' hgr
          go_wp2_with fail
          go_roundg (n.sets.length - (j + 1))
          case measure => omega
          case rel => exact ⟨j + 1, by omega, by go_num, Hgr.out, Hbx.out, by rw [notTo_no (p := fun i => (setAt n.sets i).length ≠ 0) H0.out, List.length_append, List.map_append]; exact Hown'.out⟩
      · obtain rfl : j = n.sets.length := by omega
        go_wp2_with fail
        go_ret2
        obtain ⟨g, hg, ho⟩ := Own.of_row (f := intCell (emptyL n)) Hown.out (intCells _)
        rw [emptyV_ok Hok.out, netE_ok Hok.out]
        exact ⟨_, g, rfl, (by repeat (first | exact Ext.refl _ | assumption | refine Ext.alloc ?_ _ | refine Ext.drew ?_ | refine Ext.drewN ?_ _ | refine Ext.setCell ?_ (by first | (simp; done) | (simp; omega) | omega) _ | refine Ext.trans ?_ (by assumption))), fun h => by have := hg h; omega, ho⟩
  · have Hok := Lib.hid hok
    clear hok
    rw [B_false Hok.out]
    go_wp2_with fail
    go_ret2
    rw [emptyV_no Hok.out, netE_no Hok.out]
    exact NewInts2.nil 1 (by repeat (first | exact Ext.refl _ | assumption | refine Ext.alloc ?_ _ | refine Ext.drew ?_ | refine Ext.drewN ?_ _ | refine Ext.setCell ?_ (by first | (simp; done) | (simp; omega) | omega) _ | refine Ext.trans ?_ (by assumption)))

set_option maxHeartbeats 1000000 in
theorem spec_EmptyVariables (s k : Value) (n : Net) (w : World) (h : NetIn w s k n) : Calls Try.prog 53 #[.agg #[s, k]] w (NewInts2 (emptyV n) (netE n) w) := by
  obtain ⟨A, c, rfl, hn, hc⟩ := h.1.len
  have H := Lib.hid h
  clear h
  go_enter Try.func53, Try.ntmps53
  go_wp2_with fail
  refine Calls.mono (spec_IsNetwork _ k n _ (H.out.up (by repeat (first | exact Ext.refl _ | assumption | refine Ext.alloc ?_ _ | refine Ext.drew ?_ | refine Ext.drewN ?_ _ | refine Ext.setCell ?_ (by first | (simp; done) | (simp; omega) | omega) _ | refine Ext.trans ?_ (by assumption))))) ?_
  rintro e w1 ⟨rfl, hx1⟩
  have hb := (Boxed.new w [.slice A n.sets.length c, k] 27).ext hx1; have hb0 := hb.at0; have hb1 := hb.at1; have hbg := hb.1; have Hhb := Lib.hid hb; clear hb
  have hx : Ext w w1 := (by repeat (first | exact Ext.refl _ | assumption | refine Ext.alloc ?_ _ | refine Ext.drew ?_ | refine Ext.drewN ?_ _ | refine Ext.setCell ?_ (by first | (simp; done) | (simp; omega) | omega) _ | refine Ext.trans ?_ (by assumption)))
  clear hx1
  by_cases hok : NetOk n
  · have Hok := Lib.hid hok
    have h8 := hok.1
    clear hok
    rw [B_true Hok.out]
    go_wp2_with fail
    go_loopg [4, 5] n.sets.length (fun q u i wr => ∃ j : Nat, j + q = n.sets.length ∧ i = .int .i64 j ∧ Ext w wr ∧ Boxed wr w.heap.size [.slice A n.sets.length c, k] ∧
      wr.ownsRow (w.heap.size + 1) 2 1 u (notTo (fun i => (setAt n.sets i).length ≠ 0) j).length ((notTo (fun i => (setAt n.sets i).length ≠ 0) j).map (Value.int .i64)))
    case atStart =>
      refine ⟨0, by omega, rfl, (by repeat (first | exact Ext.refl _ | assumption | refine Ext.alloc ?_ _ | refine Ext.drew ?_ | refine Ext.drewN ?_ _ | refine Ext.setCell ?_ (by first | (simp; done) | (simp; omega) | omega) _ | refine Ext.trans ?_ (by assumption))), Hhb.out.ext (by repeat (first | exact Ext.refl _ | assumption | refine Ext.alloc ?_ _ | refine Ext.drew ?_ | refine Ext.drewN ?_ _ | refine Ext.setCell ?_ (by first | (simp; done) | (simp; omega) | omega) _ | refine Ext.trans ?_ (by assumption))), ?_⟩
      have := World.ownsRow_made (base := w.heap.size + 1) (e := 2) (size := 1) w1 #[] 0 hbg (Nat.zero_le _) rfl
      simpa [notTo] using this
    case round =>
      obtain ⟨j, hj, rfl, hxr, hbb, hown⟩ := hrel
      have hb := hbb; have hb0 := hb.at0; have hb1 := hb.at1; have hbg := hb.1; have Hhb := Lib.hid hb; clear hb
      have Hown := Lib.hid hown
      clear hown hbb
      by_cases hlt : j < n.sets.length
      · obtain ⟨b, off, u, rfl, _, hbl, h1, h2⟩ := (H.out.1.ext hxr (Nat.le_refl _)).at_ hlt
        obtain ⟨A2, c2, rfl, hn2, hc2⟩ := h2.len
        clear h2
        by_cases h0 : (setAt n.sets j).length ≠ 0
        · have hd : (((setAt n.sets j).length : Int) == 0) = false := beq_eq_false_iff_ne.2 (by omega)
          have H0 := Lib.hid h0
          clear h0
          go_wp2_with fail
          go_roundg (n.sets.length - (j + 1))
          case measure => omega
          case rel => exact ⟨j + 1, by omega, by go_num, (by repeat (first | exact Ext.refl _ | assumption | refine Ext.alloc ?_ _ | refine Ext.drew ?_ | refine Ext.drewN ?_ _ | refine Ext.setCell ?_ (by first | (simp; done) | (simp; omega) | omega) _ | refine Ext.trans ?_ (by assumption))), Hhb.out, by rw [notTo_yes (p := fun i => (setAt n.sets i).length ≠ 0) H0.out]; exact Hown.out⟩
        · have hd : (((setAt n.sets j).length : Int) == 0) = true := by rw [beq_iff_eq]; omega
          have H0 := Lib.hid h0
          have Hlen := Lib.hid (notTo_len (fun i => (setAt n.sets i).length ≠ 0) j)
          clear h0
          go_wp2_with (at_builtin; refine wpList_append_box _ rfl _ _ 28 rfl (w.heap.size + 1) 2 1 8 Try.underlying28 (by kernel_rfl) (by omega) _ _ _ rfl (row_ext Hown.out ((Ext.refl _).alloc _)) wr.heap.size [.int .i64 j] rfl (Boxed.new wr [.int .i64 j] 2) rfl (by simp [Value.oneCell']) (by have := Hlen.out; unfold maxLen; omega) (by have := Hlen.out; omega) (by simp; omega) ?_; intro v' w2 hown' hgr)
          have Hgr := Lib.hid (Ext.grown (hxr.alloc (.cells #[.int .i64 j] 2)) hgr (row_ext Hown.out ((Ext.refl _).alloc _)) (Nat.le_succ _))
          have Hbx := Lib.hid (Boxed.grown (Boxed.ext Hhb.out ((Ext.refl _).alloc (.cells #[.int .i64 j] 2))) hgr (row_ext Hown.out ((Ext.refl _).alloc _)) (Nat.lt_succ_self _))
          have Hown' := Lib.hid hown'
          clear hown' hgr
          go_wp2_with fail
          go_roundg (n.sets.length - (j + 1))
          case measure => omega
          case rel => exact ⟨j + 1, by omega, by go_num, Hgr.out, Hbx.out, by rw [notTo_no (p := fun i => (setAt n.sets i).length ≠ 0) H0.out, List.length_append, List.map_append]; exact Hown'.out⟩
      · obtain rfl : j = n.sets.length := by omega
        go_wp2_with fail
        go_ret2
        obtain ⟨g, hg, ho⟩ := Own.of_row (f := intCell (emptyL n)) Hown.out (intCells _)
        rw [emptyV_ok Hok.out, netE_ok Hok.out]
        exact ⟨_, g, rfl, (by repeat (first | exact Ext.refl _ | assumption | refine Ext.alloc ?_ _ | refine Ext.drew ?_ | refine Ext.drewN ?_ _ | refine Ext.setCell ?_ (by first | (simp; done) | (simp; omega) | omega) _ | refine Ext.trans ?_ (by assumption))), fun h => by have := hg h; omega, ho⟩
  · have Hok := Lib.hid hok
    clear hok
    rw [B_false Hok.out]
    go_wp2_with fail
    go_ret2
    rw [emptyV_no Hok.out, netE_no Hok.out]
    exact NewInts2.nil 1 (by repeat (first | exact Ext.refl _ | assumption | refine Ext.alloc ?_ _ | refine Ext.drew ?_ | refine Ext.drewN ?_ _ | refine Ext.setCell ?_ (by first | (simp; done) | (simp; omega) | omega) _ | refine Ext.trans ?_ (by assumption)))
end Go.Proofs.Ytfajmlkiidnhlaa
