/- Contracts: MarkDays of the program and of the reference. -/
import Derived.Test.YtfmnkojjkjkdeaaDoorJg
namespace Go.Proofs.YtfmnkojjkjkdeaaDoor
set_option linter.unusedVariables false
set_option linter.unusedSimpArgs false
open Go.RowKit
attribute [local go_sem] cell_onto

/-- two results: spans of the call's own, and a code -/
def NewSpsD (l : List Sp) (e0 : Int) (w : World) (e : Ending) (w' : World) : Prop :=
  ∃ v g, e = .returned (.tuple #[v, .int .i64 e0]) ∧ Ext w w' ∧ (0 < l.length → w.heap.size ≤ g) ∧ Own w' g 2 v l.length (spanCell l)
theorem NewSpsD.nil (e0 : Int) {w w' : World} (h : Ext w w') : NewSpsD [] e0 w (.returned (.tuple #[.slice none 0 0, .int .i64 e0])) w' :=
  ⟨_, 0, rfl, h, fun h => absurd h (by simp), Nat.zero_le _, none, 0, rfl, Nat.le_refl _, fun h => absurd h (by simp)⟩
theorem NewSpsD.of {T : TypeId} {l : List Sp} {e0 : Int} {w w' : World} {v : Value} (h : Ext w w') (hr : w'.ownsRow w.heap.size T 2 v l.length (cellsOf (l.length * 2) (spanCell l))) : NewSpsD l e0 w (.returned (.tuple #[v, .int .i64 e0])) w' := by
  obtain ⟨g, hg, ho⟩ := Own.of_owned hr
  exact ⟨v, g, rfl, h, fun hn => (hg hn).2, ho⟩
theorem mkdL_small (l : List Nsp) (name : ByteArray) : (mkdL l name).length ≤ 1048576 := by
  by_cases h : MksOk l
  · rw [(mkd_ok h).2]
    have := mkL_len (mdL l name)
    have := (mdL_ok h name).1
    omega
  · rw [(mkd_no h).2]
    simp
set_option maxHeartbeats 2000000 in
theorem impl_MarkDays (v : Value) (l : List Nsp) (name : ByteArray) (w : World) (h : Nsps w 0 w.heap.size v l) (_ : NSm l) : Calls Tryd.prog 14 #[v, .string name] w (NewSpsD (mkdL l name) (mkdE l name) w) := by
  obtain ⟨A, c, rfl, hn, hc⟩ := h.len
  have H := Lib.hid h
  clear h
  go_enter Tryd.func14, Tryd.ntmps14
  go_wp2_with fail
  refine Calls.mono (impl_AreMarks _ l _ H.out) ?_
  rintro e w1 ⟨rfl, hx1⟩
  by_cases hok : MksOk l
  · obtain ⟨m1, m2⟩ := mkd_ok (name := name) hok
    have Hm := Lib.hid (And.intro m1 m2)
    rw [B_true hok]
    clear m1 m2
    have Hml := Lib.hid (show (mkL (mdL l name)).length ≤ 40 from Nat.le_trans (mkL_len _) (mdL_ok hok name).1)
    go_wp2_with fail
    refine Calls.mono (impl_markDays _ l name _ (H.out.up hx1) hok) ?_
    rintro e w2 ⟨u, rfl, hx2, ho⟩
    obtain ⟨A6, c6, rfl⟩ := ownsRow_len ho
    have Ho := Lib.hid ho
    clear ho
    have hml := Hml.out
    by_cases hz : (mkL (mdL l name)).length = 0
    · have He : mkL (mdL l name) = [] := List.eq_nil_of_length_eq_zero hz
      have hz2 : (((mkL (mdL l name)).length : Int) = 0) := by omega
      go_wp2_with fail
      go_ret2
      rw [Hm.out.1, Hm.out.2, if_pos hz, He]
      exact NewSpsD.nil 4 (by repeat (first | exact Ext.refl _ | assumption | refine Ext.alloc ?_ _ | refine Ext.drew ?_ | refine Ext.drewN ?_ _ | refine Ext.setCell ?_ (by first | (simp; done) | (simp; omega) | omega) _ | refine Ext.trans ?_ (by assumption)))
    · have hz2 : ¬ (((mkL (mdL l name)).length : Int) = 0) := by omega
      go_wp2_with fail
      go_ret2
      rw [Hm.out.1, Hm.out.2, if_neg hz]
      exact NewSpsD.of (by repeat (first | exact Ext.refl _ | assumption | refine Ext.alloc ?_ _ | refine Ext.drew ?_ | refine Ext.drewN ?_ _ | refine Ext.setCell ?_ (by first | (simp; done) | (simp; omega) | omega) _ | refine Ext.trans ?_ (by assumption))) (ownsRow_mono Ho.out hx1.size)
  · obtain ⟨m1, m2⟩ := mkd_no (name := name) hok
    have Hm := Lib.hid (And.intro m1 m2)
    rw [B_false hok]
    clear m1 m2
    go_wp2_with fail
    go_ret2
    rw [Hm.out.1, Hm.out.2]
    exact NewSpsD.nil 1 (by repeat (first | exact Ext.refl _ | assumption | refine Ext.alloc ?_ _ | refine Ext.drew ?_ | refine Ext.drewN ?_ _ | refine Ext.setCell ?_ (by first | (simp; done) | (simp; omega) | omega) _ | refine Ext.trans ?_ (by assumption)))
set_option maxHeartbeats 2000000 in
theorem spec_MarkDays (v : Value) (l : List Nsp) (name : ByteArray) (w : World) (h : Nsps w 0 w.heap.size v l) (hsm : NSm l) : Calls Tryd.prog 12 #[v, .string name] w (NewSpsD (mkdL l name) (mkdE l name) w) := by
  obtain ⟨A, c, rfl, hn, hc⟩ := h.len
  have H := Lib.hid h
  clear h
  go_enter Tryd.func12, Tryd.ntmps12
  go_wp2_with fail
  refine Calls.mono (spec_AreMarks _ l _ H.out hsm) ?_
  rintro e w1 ⟨rfl, hx1⟩
  by_cases hok : MksOk l
  · obtain ⟨m1, m2⟩ := mkd_ok (name := name) hok
    have Hm := Lib.hid (And.intro m1 m2)
    rw [B_true hok]
    clear m1 m2
    have Hml := Lib.hid (show (mkL (mdL l name)).length ≤ 40 from Nat.le_trans (mkL_len _) (mdL_ok hok name).1)
    go_wp2_with fail
    refine Calls.mono (spec_l16Days _ l name _ (H.out.up hx1) hok) ?_
    rintro e w2 ⟨u, rfl, hx2, ho⟩
    obtain ⟨A6, c6, rfl⟩ := ownsRow_len ho
    have Ho := Lib.hid ho
    clear ho
    have hml := Hml.out
    by_cases hz : (mkL (mdL l name)).length = 0
    · have He : mkL (mdL l name) = [] := List.eq_nil_of_length_eq_zero hz
      have hz2 : (((mkL (mdL l name)).length : Int) = 0) := by omega
      go_wp2_with fail
      go_ret2
      rw [Hm.out.1, Hm.out.2, if_pos hz, He]
      exact NewSpsD.nil 4 (by repeat (first | exact Ext.refl _ | assumption | refine Ext.alloc ?_ _ | refine Ext.drew ?_ | refine Ext.drewN ?_ _ | refine Ext.setCell ?_ (by first | (simp; done) | (simp; omega) | omega) _ | refine Ext.trans ?_ (by assumption)))
    · have hz2 : ¬ (((mkL (mdL l name)).length : Int) = 0) := by omega
      go_wp2_with fail
      go_ret2
      rw [Hm.out.1, Hm.out.2, if_neg hz]
      exact NewSpsD.of (by repeat (first | exact Ext.refl _ | assumption | refine Ext.alloc ?_ _ | refine Ext.drew ?_ | refine Ext.drewN ?_ _ | refine Ext.setCell ?_ (by first | (simp; done) | (simp; omega) | omega) _ | refine Ext.trans ?_ (by assumption))) (ownsRow_mono Ho.out hx1.size)
  · obtain ⟨m1, m2⟩ := mkd_no (name := name) hok
    have Hm := Lib.hid (And.intro m1 m2)
    rw [B_false hok]
    clear m1 m2
    go_wp2_with fail
    go_ret2
    rw [Hm.out.1, Hm.out.2]
    exact NewSpsD.nil 1 (by repeat (first | exact Ext.refl _ | assumption | refine Ext.alloc ?_ _ | refine Ext.drew ?_ | refine Ext.drewN ?_ _ | refine Ext.setCell ?_ (by first | (simp; done) | (simp; omega) | omega) _ | refine Ext.trans ?_ (by assumption)))
end Go.Proofs.YtfmnkojjkjkdeaaDoor
