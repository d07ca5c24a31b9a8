/- Contracts: the reference's l20Choice. -/
import Derived.Test.YtfmnkojjkjkdeaaGreatDoorQ3Up
import Derived.Test.YtfmnkojjkjkdeaaGreatDoorQ3Q
import Derived.Test.YtfmnkojjkjkdeaaGreatDoorQ3S
import Derived.Test.YtfmnkojjkjkdeaaGreatDoorQ3G
import Derived.Deep.RegionLaw
namespace Go.Proofs.YtfmnkojjkjkdeaaGreatDoor
set_option linter.unusedVariables false
set_option linter.unusedSimpArgs false
open Go.RowKit
attribute [local go_sem] cell_onto

theorem spAt_push (l : List Sp) (x : Sp) {i : Nat} (hi : i < l.length + 1) : spAt (l ++ [x]) i = if i = l.length then x else spAt l i := by
  unfold spAt
  rw [List.getD_eq_getElem?_getD, List.getD_eq_getElem?_getD]
  by_cases h2 : i = l.length
  · subst h2; simp
  · rw [if_neg h2, List.getElem?_append_left (by omega)]
theorem spanCells_push (l : List Sp) (x : Sp) : cellsOf (l.length * 2) (spanCell l) ++ cellsOf (1 * 2) (spanCell [x]) = cellsOf ((l ++ [x]).length * 2) (spanCell (l ++ [x])) := by
  rw [cellsOf_append, List.length_append]
  have e : l.length * 2 + 1 * 2 = (l.length + [x].length) * 2 := by simp; omega
  rw [e]
  refine cellsOf_congr (fun i hi => ?_)
  have hl : [x].length = 1 := rfl
  rw [hl] at hi
  show (if i < l.length * 2 then spanCell l i else spanCell [x] (i - l.length * 2)) = spanCell (l ++ [x]) i
  by_cases h : i < l.length * 2
  · rw [if_pos h]
    unfold spanCell
    rw [spAt_push l x (show i / 2 < l.length + 1 by omega), if_neg (show ¬ i / 2 = l.length by omega)]
  · rw [if_neg h]
    have e1 : (i - l.length * 2) % 2 = i % 2 := by omega
    have e2 : (i - l.length * 2) / 2 = 0 := by omega
    have e3 : i / 2 = l.length := by omega
    unfold spanCell
    rw [e1, e2, spAt_push l x (show i / 2 < l.length + 1 by omega), if_pos e3]
    rfl
theorem take_pushS (c : List Sp) {j : Nat} (h : j < c.length) : c.take (j + 1) = c.take j ++ [spAt c j] := by
  rw [List.take_succ_eq_append_getElem h]
  unfold spAt
  rw [List.getD_eq_getElem?_getD, List.getElem?_eq_getElem h]
  rfl
theorem prodN_ne {l : List (List Sp)} {k : Nat} (h : k < prodN l) {j : Nat} (hj : j < l.length) : 0 < (setAt l j).length := by
  rcases Nat.eq_zero_or_pos (setAt l j).length with e | e
  · rw [prodN_zero hj e] at h; omega
  · exact e
theorem nuTo_succ (l : List (List Sp)) (k i : Nat) : nuTo l k (i + 1) = nuTo l k i / (setAt l i).length := rfl

set_option maxHeartbeats 4000000 in
theorem spec_l20Choice (s k : Value) (n : Net) (m : Nat) (w : World) (h : NetIn w s k n) (hm : m < prodN n.sets) (hm2 : m ≤ 4096) (h8 : n.sets.length ≤ 8) (hf : SetsFit n.sets) :
    Calls Tryz.prog 201 #[.agg #[s, k], .int .i64 m] w (NewOwn 134 2 (chN n.sets m).length (spanCell (chN n.sets m)) w) := by
  obtain ⟨A, c, rfl, hn, hc⟩ := h.1.len
  have H := Lib.hid h
  have Hm := Lib.hid hm
  have Hf := Lib.hid hf
  have Hcl := Lib.hid (chN_len n.sets m)
  clear h hm hf
  go_enter Tryz.func201, Tryz.ntmps201
  have nb := Boxed.new w [.slice A n.sets.length c, k] 27; have nb0 := nb.at0; have nb1 := nb.at1; have nbg := nb.1; have Hnb := Lib.hid nb; clear nb
  go_wp2_with fail
  go_loopg [1, 5, 6, 7] n.sets.length (fun q u1 u5 i u7 wr => ∃ j : Nat, j + q = n.sets.length ∧ u1 = .int .i64 (nuTo n.sets m j) ∧ i = .int .i64 j ∧ Ext w wr ∧ Boxed wr w.heap.size [.slice A n.sets.length c, k] ∧
    wr.ownsRow (w.heap.size + 1) 134 2 u5 ((chN n.sets m).take j).length (cellsOf (((chN n.sets m).take j).length * 2) (spanCell ((chN n.sets m).take j))))
  case atStart =>
    refine ⟨0, by omega, rfl, rfl, (by repeat (first | exact Ext.refl _ | assumption | refine Ext.alloc ?_ _ | refine Ext.drew ?_ | refine Ext.drewN ?_ _ | refine Ext.setCell ?_ (by first | (simp; done) | (simp; omega) | omega) _ | refine Ext.trans ?_ (by assumption))), Hnb.out.ext (by repeat (first | exact Ext.refl _ | assumption | refine Ext.alloc ?_ _ | refine Ext.drew ?_ | refine Ext.drewN ?_ _ | refine Ext.setCell ?_ (by first | (simp; done) | (simp; omega) | omega) _ | refine Ext.trans ?_ (by assumption))), ?_⟩
    have := World.ownsRow_made (base := w.heap.size + 1) (e := 134) (size := 2) (w.alloc (.cells #[.slice A n.sets.length c, k] 27)) #[] 0 (by simp) (Nat.zero_le _) rfl
    simpa [cellsOf] using this
  clear nb0 nb1 nbg Hnb
  case round =>
    obtain ⟨j, hj, rfl, rfl, hx, hnb, hown⟩ := hrel
    have nb := hnb; have nb0 := nb.at0; have nb1 := nb.at1; have nbg := nb.1; have Hnb := Lib.hid nb; clear nb
    have Hown := Lib.hid hown
    have hnu : nuTo n.sets m j ≤ 4096 := Nat.le_trans (nuTo_le _ _ _) hm2
    clear hown hnb
    by_cases hlt : j < n.sets.length
    · obtain ⟨b, off, u, rfl, _, hb, h1, h2⟩ := (H.out.1.ext hx (Nat.le_refl _)).at_ hlt
      have h0 : 0 < (setAt n.sets j).length := prodN_ne Hm.out hlt
      have hfit := Hf.out j hlt
      have hmod : nuTo n.sets m j % (setAt n.sets j).length < (setAt n.sets j).length := Nat.mod_lt _ h0
      obtain ⟨As, cs, rfl, _, hcs⟩ := h2.len
      obtain ⟨b2, off2, rfl, _, hb2, c1, c2⟩ := h2.at_ hmod
      have Hch := Lib.hid (chN_at n.sets m j hlt)
      have Hnu := Lib.hid (nuTo_succ n.sets m j)
      generalize hv : nuTo n.sets m j = v at *
      have Hv := Lib.hid hv
      clear hv h2
      go_wp2_with fail
      have e1 : setAt n.sets j ≠ [] := fun e => by rw [e] at h0; exact absurd h0 (by simp)
      have e5 : Int.tmod (v : Int) ((setAt n.sets j).length : Int) = ((v % (setAt n.sets j).length : Nat) : Int) := by rw [Int.tmod_eq_emod_of_nonneg (by omega)]; rfl
      have e2 : 0 ≤ Int.tmod (v : Int) ((setAt n.sets j).length : Int) := by rw [e5]; omega
      have e3 : Int.tmod (v : Int) ((setAt n.sets j).length : Int) < ((setAt n.sets j).length : Int) := by rw [e5]; omega
      have e4 : (Int.tmod (v : Int) ((setAt n.sets j).length : Int)).toNat = v % (setAt n.sets j).length := by rw [e5]; rfl
      clear e5
      have hxs := hx.size
      go_region_law (refine step_append_row rfl (.tmp 22) (.tmp 33) 48 rfl (w.heap.size + 1) 134 2 16 Tryz.underlying48 (by kernel_rfl) (by omega) u5 ((chN n.sets m).take j).length 1 _ rfl (.inl (row_ext Hown.out (by repeat (first | exact Ext.refl _ | assumption | refine Ext.alloc ?_ _ | refine Ext.drew ?_ | refine Ext.drewN ?_ _ | refine Ext.setCell ?_ (by first | (simp; done) | (simp; omega) | omega) _ | refine Ext.trans ?_ (by assumption))))) (.inl (row_ext Hown.out (by repeat (first | exact Ext.refl _ | assumption | refine Ext.alloc ?_ _ | refine Ext.drew ?_ | refine Ext.drewN ?_ _ | refine Ext.setCell ?_ (by first | (simp; done) | (simp; omega) | omega) _ | refine Ext.trans ?_ (by assumption))))) 0 _ _ (spanCell [spAt (setAt n.sets j) (v % (setAt n.sets j).length)]) rfl ((Boxed.new _ [.int .i64 (spAt (setAt n.sets j) (v % (setAt n.sets j).length)).fr, .int .i64 (spAt (setAt n.sets j) (v % (setAt n.sets j).length)).to] 134).row rfl (span_cells _ _)) (fun i _ => spanCell_one _ i) (by rw [List.length_take]; unfold maxLen; omega) (by rw [List.length_take]; omega) (by simp; omega) ?_; intro v' w3 hown3 hput3)
      have Hx3 := Lib.hid (hput3.ext (show Ext w _ from (by repeat (first | exact Ext.refl _ | assumption | refine Ext.alloc ?_ _ | refine Ext.drew ?_ | refine Ext.drewN ?_ _ | refine Ext.setCell ?_ (by first | (simp; done) | (simp; omega) | omega) _ | refine Ext.trans ?_ (by assumption)))) (by omega))
      have Hnb3 : Hid (Boxed w3 w.heap.size [.slice (some ⟨b, off, none⟩) n.sets.length c, k]) := Lib.hid (Boxed.off (Hnb.out.ext (by repeat (first | exact Ext.refl _ | assumption | refine Ext.alloc ?_ _ | refine Ext.drew ?_ | refine Ext.drewN ?_ _ | refine Ext.setCell ?_ (by first | (simp; done) | (simp; omega) | omega) _ | refine Ext.trans ?_ (by assumption)))) hput3.1 (fun hh => by have := hh.1; omega))
      have Hown3 := Lib.hid hown3
      clear hown3 hput3 nb0 nb1 nbg Hnb h1 c1 c2
      go_wp2_with fail
      go_roundg (n.sets.length - (j + 1))
      case measure => omega
      case rel =>
        refine ⟨j + 1, by omega, ?_, by go_num, Hx3.out, Hnb3.out, ?_⟩
        · rw [Hnu.out]
          have hdv : v / (setAt n.sets j).length ≤ 4096 := Nat.le_trans (Nat.div_le_self _ _) hnu
          have e6 : (v : Int) / ((setAt n.sets j).length : Int) = ((v / (setAt n.sets j).length : Nat) : Int) := rfl
          rw [e6]
          generalize v / (setAt n.sets j).length = z at *
          have e7 : wrap64 (z : Int) = (z : Int) := by unfold wrap64; omega
          rw [e7]
        · rw [take_pushS _ (by rw [Hcl.out]; exact hlt), Hch.out, ← spanCells_push, List.length_append]
          exact Hown3.out
    · obtain rfl : j = n.sets.length := by omega
      go_wp2_with fail
      go_ret
      have h2 := Hown.out
      rw [List.take_of_length_le (by rw [Hcl.out]; exact Nat.le_refl _)] at h2
      exact ⟨_, rfl, (by repeat (first | exact Ext.refl _ | assumption | refine Ext.alloc ?_ _ | refine Ext.drew ?_ | refine Ext.drewN ?_ _ | refine Ext.setCell ?_ (by first | (simp; done) | (simp; omega) | omega) _ | refine Ext.trans ?_ (by assumption))), ownsRow_mono h2 (by omega)⟩
end Go.Proofs.YtfmnkojjkjkdeaaGreatDoor
