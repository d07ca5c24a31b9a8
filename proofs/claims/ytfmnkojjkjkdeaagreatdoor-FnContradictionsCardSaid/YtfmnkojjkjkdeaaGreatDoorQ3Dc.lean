/- Contract: days drawn near to those of sets. -/
import Derived.Test.YtfmnkojjkjkdeaaGreatDoorQ3Mk
import Derived.Deep.RegionLaw
import Derived.Deep.RegionHeld3
import Derived.Deep.DeepCutAuto
import Derived.IntWalk
namespace Go.Proofs.YtfmnkojjkjkdeaaGreatDoor
set_option linter.unusedVariables false
set_option linter.unusedSimpArgs false
open Go.RowKit
attribute [local go_sem] cell_onto

theorem one_int (x : Int) : ∀ i, i < 1 → [Value.int .i64 x][i]? = some (intCell [x] i) := fun i hi => by
  obtain rfl : i = 0 := by omega
  rfl
theorem inAt_app (l : List Int) (x : Int) {i : Nat} (hi : i < l.length + 1) : inAt (l ++ [x]) i = if i = l.length then x else inAt l i := by
  unfold inAt
  rw [List.getD_eq_getElem?_getD, List.getD_eq_getElem?_getD]
  by_cases h2 : i = l.length
  · subst h2; simp
  · rw [if_neg h2, List.getElem?_append_left (by omega)]
theorem intCells_app (l : List Int) (x : Int) : cellsOf (l.length * 1) (intCell l) ++ cellsOf (1 * 1) (intCell [x]) = cellsOf ((l ++ [x]).length * 1) (intCell (l ++ [x])) := by
  rw [cellsOf_append, List.length_append]
  have e : l.length * 1 + 1 * 1 = (l.length + [x].length) * 1 := by simp
  rw [e]
  refine cellsOf_congr (fun i hi => ?_)
  have hi' : i < l.length + 1 := by simpa using hi
  unfold intCell
  rw [inAt_app l x hi']
  by_cases h : i < l.length * 1
  · rw [if_pos h, if_neg (show ¬ i = l.length by omega)]
  · rw [if_neg h, if_pos (show i = l.length by omega), show i - l.length * 1 = 0 by omega]
    rfl
theorem intRow_push {w : World} {base T : Nat} {v : Value} {l : List Int} {x : Int} (h : w.ownsRow base T 1 v (l.length + 1) (cellsOf (l.length * 1) (intCell l) ++ cellsOf (1 * 1) (intCell [x]))) :
    w.ownsRow base T 1 v (l ++ [x]).length (cellsOf ((l ++ [x]).length * 1) (intCell (l ++ [x]))) := by
  rw [intCells_app] at h
  rw [List.length_append]
  rw [List.length_append] at h
  exact h
theorem ownsRow_two {w : World} {b n sz p : Nat} {e : TypeId} {v x y : Value} {xs : List Value} (h : w.ownsRow b e sz v n xs) (hk : ∀ k, v.ownBlock = some k → k ≠ p) : ((w.setCell ⟨p, 0, none⟩ x).setCell ⟨p, 1, none⟩ y).ownsRow b e sz v n xs :=
  ownsRow_off h (S := One p) (Off.setCell (S := One p) (p := ⟨p, 1, none⟩) (Off.setCell (S := One p) (p := ⟨p, 0, none⟩) (Off.refl _ _) (.inl rfl) _) (.inl rfl) _) (fun k hk' hh => hk k hk' hh)
theorem below_le {n r : Int} (h : Below' n r) (hn : n ≤ 730500) : r ≤ 730499 := by
  by_cases h1 : 1 < n
  · have := h.2.1 h1; omega
  · have := h.2.2 (by omega); omega
set_option maxRecDepth 100000 in
set_option maxHeartbeats 8000000 in
theorem spec_l18DrawDays (b0 g cn lo hi : Nat) (cv s k : Value) (n : Net) (w : World) (h : Src b0 g cv cn w) (hn : Sets w lo hi s n.sets) (hlo : g < lo) (hhi : hi ≤ w.heap.size) (h8 : n.sets.length ≤ 1000) :
    Calls Tryz.prog 192 #[.pointer (some ⟨g, 0, none⟩), .agg #[s, k]] w (DrInts b0 g cv cn 2 (fun l => l.length = n.sets.length) w) := by
  obtain ⟨As, cs, rfl, _, _⟩ := hn.len
  have Hs := Lib.hid h
  have hg := h.lt
  obtain ⟨w0, hw0⟩ : ∃ w0 : World, w0 = w.alloc (.cells #[.slice As n.sets.length cs, k] 27) := ⟨_, rfl⟩
  have hx0 : Ext w w0 := by rw [hw0]; exact (by repeat (first | exact Ext.refl _ | assumption | refine Ext.alloc ?_ _ | refine Ext.drew ?_ | refine Ext.drewN ?_ _ | refine Ext.setCell ?_ (by first | (simp; done) | (simp; omega) | omega) _ | refine Ext.trans ?_ (by assumption)))
  have hz0 : w0.heap.size = w.heap.size + 1 := by rw [hw0]; simp
  have Hb0 : Hid (Boxed w0 w.heap.size [.slice As n.sets.length cs, k]) := Lib.hid (by rw [hw0]; exact (Boxed.new w [.slice As n.sets.length cs, k] 27).ext (by repeat (first | exact Ext.refl _ | assumption | refine Ext.alloc ?_ _ | refine Ext.drew ?_ | refine Ext.drewN ?_ _ | refine Ext.setCell ?_ (by first | (simp; done) | (simp; omega) | omega) _ | refine Ext.trans ?_ (by assumption))))
  have H := Lib.hid (hn.ext hx0 hhi)
  have Hd0 : Hid (Drw b0 g cv cn w0 (w0.alloc (.cells #[] 2))) := Lib.hid ((Drw.refl (h.ext hx0)).alloc _)
  have Ho0 : Hid ((w0.alloc (.cells #[] 2)).ownsRow w0.heap.size 2 1 (.slice (some ⟨w0.heap.size, 0, none⟩) 0 0) 0 []) := Lib.hid (World.ownsRow_made w0 #[] 0 (Nat.le_refl _) (Nat.zero_le _) rfl)
  have Hx0 := Lib.hid hx0
  have hne0 : w.heap.size ≠ g := by omega
  have hgw : g < w0.heap.size := by omega
  have hwz : w.heap.size < w0.heap.size := by omega
  have Hw0 := Lib.hid hw0
  have Hz0 := Lib.hid hz0
  clear h hn hw0 hx0 hz0
  go_enter Tryz.func192, Tryz.ntmps192
  go_wp2_with fail
  rw [← Hw0.out, show w.heap.size + 1 = w0.heap.size from Hz0.out.symm]
  clear Hw0
  go_loopg [5, 6] n.sets.length (fun q u5 u6 wr => ∃ (j : Nat) (l : List Int), j + q = n.sets.length ∧ l.length = j ∧ u6 = .int .i64 j ∧ Hid (Drw b0 g cv cn w0 wr) ∧ Hid (wr.ownsRow w0.heap.size 2 1 u5 l.length (cellsOf (l.length * 1) (intCell l))))
  case atStart => exact ⟨0, [], by omega, rfl, rfl, Hd0, Lib.hid (by simpa [cellsOf] using Ho0.out)⟩
  clear Ho0
  case round =>
    obtain ⟨j, l, hj, hl, rfl, Hd, Ho⟩ := hrel
    have hzr := Hd.out.size
    have bxr := (Hb0.out.drw Hd.out hne0).at0
    have bgr : w.heap.size < wr.heap.size := by omega
    by_cases hlt : j < n.sets.length
    · obtain ⟨b, off, u, rfl, hb1, hb2, hc0, hsp⟩ := H.out.at_ hlt
      obtain ⟨Au, cu, rfl, _, _⟩ := hsp.len
      have Hsp := Lib.hid hsp
      have hb3 : b < w0.heap.size := by omega
      have hb4 : b ≠ g := by omega
      have hji : (j : Int) < (n.sets.length : Int) := by omega
      have hj0 : (0 : Int) ≤ (j : Int) := by omega
      clear hsp
      go_wp2_with fail
      refine Calls.mono (spec_l01Next b0 g cn cv 250 _ Hd.out.src) ?_
      rintro e w2 ⟨r, rfl, ⟨r0, r1, _⟩, hd2⟩
      have hr := r1 (by omega)
      have Hd2 := Lib.hid (Hd.out.trans hd2)
      have Ho2 := Lib.hid (ownsRow_drw Ho.out hd2 (by omega))
      have hz2 := Hd2.out.size
      have bx2 := (Hb0.out.drw Hd2.out hne0).at0
      have bg2 : w.heap.size < w2.heap.size := by have := Hb0.out.1; omega
      have hc2 := (Hd2.out.cell hb3 hb4).trans hc0
      clear r1 hd2 bxr bgr Ho
      go_wp2_with fail
      refine Calls.mono (spec_IsSet _ (setAt n.sets j) _ (Row.mono (Row.off (S := One g) Hsp.out Hd2.out.off (fun k h1 h2 hh => by have e : k = g := hh; omega) (by omega)) (Nat.zero_le _) (by omega))) ?_
      rintro e w3 ⟨rfl, hx3⟩
      have Hd3 := Lib.hid (Hd2.out.ext hx3)
      have Ho3 := Lib.hid (row_ext Ho2.out hx3)
      have hz3 := Hd3.out.size
      have bx3 := (Hb0.out.drw Hd3.out hne0).at0
      have bg3 : w.heap.size < w3.heap.size := by have := Hb0.out.1; omega
      have hc3 := (Hd3.out.cell hb3 hb4).trans hc0
      clear hx3 bx2 bg2 hc2 Ho2 Hd2
      by_cases hset : SetOk (setAt n.sets j)
      case neg =>
        rw [B_false hset]
        clear hset
        go_wp2_with (at_builtin; refine wpList_append_row _ rfl _ _ 28 rfl w0.heap.size 2 1 8 Tryz.underlying28 (by kernel_rfl) (by omega) _ l.length 1 _ rfl (.inl (row_ext Ho3.out (by repeat (first | exact Ext.refl _ | assumption | refine Ext.alloc ?_ _ | refine Ext.drew ?_ | refine Ext.drewN ?_ _ | refine Ext.setCell ?_ (by first | (simp; done) | (simp; omega) | omega) _ | refine Ext.trans ?_ (by assumption))))) (.inr (by omega)) 0 _ _ (intCell [400000 + r]) rfl ((Boxed.new w3 [.int .i64 (400000 + r)] 2).row rfl (one_int _)) (fun _ _ => rfl) (by unfold maxLen; omega) (by omega) (by simp; omega) ?_; intro v9 w9 hown9 hput9; have Ho9 := Lib.hid (intRow_push hown9); have Hd9 := Lib.hid ((Hd3.out.alloc _).put hgw hput9 (Nat.le_refl _)); clear hown9 hput9)
        go_roundg (n.sets.length - (j + 1))
        case measure => omega
        case rel => exact ⟨j + 1, l ++ [400000 + r], by omega, by simp; omega, by go_num, Hd9, Ho9⟩
      rw [B_true hset]
      have Hset := Lib.hid hset
      clear hset
      by_cases hl0 : 0 < (setAt n.sets j).length
      case neg =>
        have T1 : decide ((0 : Nat) < (setAt n.sets j).length) = false := decide_eq_false hl0
        go_wp2_with (at_builtin; refine wpList_append_row _ rfl _ _ 28 rfl w0.heap.size 2 1 8 Tryz.underlying28 (by kernel_rfl) (by omega) _ l.length 1 _ rfl (.inl (row_ext Ho3.out (by repeat (first | exact Ext.refl _ | assumption | refine Ext.alloc ?_ _ | refine Ext.drew ?_ | refine Ext.drewN ?_ _ | refine Ext.setCell ?_ (by first | (simp; done) | (simp; omega) | omega) _ | refine Ext.trans ?_ (by assumption))))) (.inr (by omega)) 0 _ _ (intCell [400000 + r]) rfl ((Boxed.new w3 [.int .i64 (400000 + r)] 2).row rfl (one_int _)) (fun _ _ => rfl) (by unfold maxLen; omega) (by omega) (by simp; omega) ?_; intro v9 w9 hown9 hput9; have Ho9 := Lib.hid (intRow_push hown9); have Hd9 := Lib.hid ((Hd3.out.alloc _).put hgw hput9 (Nat.le_refl _)); clear hown9 hput9)
        go_roundg (n.sets.length - (j + 1))
        case measure => omega
        case rel => exact ⟨j + 1, l ++ [400000 + r], by omega, by simp; omega, by go_num, Hd9, Ho9⟩
      have hli : (0 : Int) < ((setAt n.sets j).length : Int) := by omega
      go_wp2_with fail
      refine Calls.mono (spec_l01Next b0 g cn cv 4 _ Hd3.out.src) ?_
      rintro e w4 ⟨r', rfl, ⟨t0, _, _⟩, hd4⟩
      have Hd4 := Lib.hid (Hd3.out.trans hd4)
      have Ho4 := Lib.hid (ownsRow_drw Ho3.out hd4 (by omega))
      have hz4 := Hd4.out.size
      have bx4 := (Hb0.out.drw Hd4.out hne0).at0
      have bg4 : w.heap.size < w4.heap.size := by have := Hb0.out.1; omega
      have hc4 := (Hd4.out.cell hb3 hb4).trans hc0
      clear hd4 bx3 bg3 hc3 Ho3 Hd3
      by_cases hr' : 0 < r'
      case neg =>
        have T1 : decide (0 < r') = false := decide_eq_false hr'
        go_wp2_with (at_builtin; refine wpList_append_row _ rfl _ _ 28 rfl w0.heap.size 2 1 8 Tryz.underlying28 (by kernel_rfl) (by omega) _ l.length 1 _ rfl (.inl (row_ext Ho4.out (by repeat (first | exact Ext.refl _ | assumption | refine Ext.alloc ?_ _ | refine Ext.drew ?_ | refine Ext.drewN ?_ _ | refine Ext.setCell ?_ (by first | (simp; done) | (simp; omega) | omega) _ | refine Ext.trans ?_ (by assumption))))) (.inr (by omega)) 0 _ _ (intCell [400000 + r]) rfl ((Boxed.new w4 [.int .i64 (400000 + r)] 2).row rfl (one_int _)) (fun _ _ => rfl) (by unfold maxLen; omega) (by omega) (by simp; omega) ?_; intro v9 w9 hown9 hput9; have Ho9 := Lib.hid (intRow_push hown9); have Hd9 := Lib.hid ((Hd4.out.alloc _).put hgw hput9 (Nat.le_refl _)); clear hown9 hput9)
        go_roundg (n.sets.length - (j + 1))
        case measure => omega
        case rel => exact ⟨j + 1, l ++ [400000 + r], by omega, by simp; omega, by go_num, Hd9, Ho9⟩
      have T1 : decide (0 < r') = true := decide_eq_true hr'
      obtain ⟨b2, off2, rfl, hs1, hs2, _, _⟩ := Hsp.out.at_ (i := 0) hl0
      have hs3 : b2 < w0.heap.size := by omega
      have hs4 : b2 ≠ g := by omega
      have hb4z : b < w4.heap.size := by omega
      have hs4z : b2 < w4.heap.size := by omega
      have hng : w4.heap.size ≠ g := by omega
      have h02 : 0 < [Value.int .i64 0, .int .i64 0].length := by simp
      have h12 : 1 < [Value.int .i64 0, .int .i64 0].length := by simp
      clear r0 t0 hr' hr
      have HS : Hid (∀ w', Drw b0 g cv cn w0 w' → w'.cell? ⟨w.heap.size, 0, none⟩ = some (.slice (some ⟨b, off, none⟩) n.sets.length cs) ∧ w'.cell? ⟨b, off + j, none⟩ = some (.slice (some ⟨b2, off2, none⟩) (setAt n.sets j).length cu) ∧ (∀ i, i < (setAt n.sets j).length → w'.cell? ⟨b2, off2 + i * 2, none⟩ = some (.int .i64 (spAt (setAt n.sets j) i).fr)) ∧ (∀ i, i < (setAt n.sets j).length → w'.cell? ⟨b2, off2 + i * 2 + 1, none⟩ = some (.int .i64 (spAt (setAt n.sets j) i).to))) := Lib.hid (fun w' hx => by
        have hcs : ∀ i, i < (setAt n.sets j).length → w0.cell? ⟨b2, off2 + i * 2, none⟩ = some (.int .i64 (spAt (setAt n.sets j) i).fr) ∧ w0.cell? ⟨b2, off2 + i * 2 + 1, none⟩ = some (.int .i64 (spAt (setAt n.sets j) i).to) := fun i hi => by
          obtain ⟨b', off', e', _, _, c50, c51⟩ := Hsp.out.at_ hi
          injection e' with e'
          injection e' with e1 e2
          subst e1 e2
          exact ⟨c50, c51⟩
        exact ⟨(Hb0.out.drw hx hne0).at0, (hx.cell hb3 hb4).trans hc0, fun i hi => (hx.cell hs3 hs4).trans (hcs i hi).1, fun i hi => (hx.cell hs3 hs4).trans (hcs i hi).2⟩)
      go_upto_region 7 with fail
      go_cut [8] (fun a wy => ∃ (bx q : Nat), q < (setAt n.sets j).length ∧ a = .pointer (some ⟨bx, 0, none⟩) ∧ w0.heap.size ≤ bx ∧ Hid (Boxed wy bx [.int .i64 (spAt (setAt n.sets j) q).fr, .int .i64 (spAt (setAt n.sets j) q).to]) ∧ Hid (Drw b0 g cv cn w0 wy) ∧ Hid (wy.ownsRow w0.heap.size 2 1 u5 l.length (cellsOf (l.length * 1) (intCell l))))
      case first =>
        go_wp2_with fail
        go_region_held3 (fun w' => w'.cell? ⟨w.heap.size, 0, none⟩ = some (.slice (some ⟨b, off, none⟩) n.sets.length cs) ∧ w'.cell? ⟨b, off + j, none⟩ = some (.slice (some ⟨b2, off2, none⟩) (setAt n.sets j).length cu) ∧ (∀ i, i < (setAt n.sets j).length → w'.cell? ⟨b2, off2 + i * 2, none⟩ = some (.int .i64 (spAt (setAt n.sets j) i).fr)) ∧ (∀ i, i < (setAt n.sets j).length → w'.cell? ⟨b2, off2 + i * 2 + 1, none⟩ = some (.int .i64 (spAt (setAt n.sets j) i).to)))
          (exact HS.out _ (by repeat (first | exact Hd5.out | exact Hd4.out | refine Drw.alloc ?_ _ | refine Drw.drew ?_ | refine Drw.drewN ?_ _ | refine Drw.setCell ?_ (by first | (simp; done) | (simp; omega) | omega) (by first | (simp; done) | (simp; omega) | omega) _)))
          (first
            | (go_simp; go_at_call 54; refine Calls.mono (spec_l01Next b0 g cn cv _ _ (Hd4.out.src.ext (by repeat (first | exact Ext.refl _ | assumption | refine Ext.alloc ?_ _ | refine Ext.drew ?_ | refine Ext.drewN ?_ _ | refine Ext.setCell ?_ (by first | (simp; done) | (simp; omega) | omega) _ | refine Ext.trans ?_ (by assumption))))) ?_; rintro e w5 ⟨i5, rfl, hbl, hd5⟩; obtain ⟨q, rfl⟩ := Int.eq_ofNat_of_zero_le hbl.1; have hq := hbl.nat hl0; have Hd5 := Lib.hid ((Hd4.out.ext (show Ext w4 _ from (by repeat (first | exact Ext.refl _ | assumption | refine Ext.alloc ?_ _ | refine Ext.drew ?_ | refine Ext.drewN ?_ _ | refine Ext.setCell ?_ (by first | (simp; done) | (simp; omega) | omega) _ | refine Ext.trans ?_ (by assumption))))).trans hd5); (first | (have hpre : Drw b0 g cv cn (w4.alloc (.cells #[.int .i64 0, .int .i64 0] 134)) w5 := Drw.pre (Ext.drew (Ext.refl _)) hd5; have sxb := (Boxed.new w4 [.int .i64 0, .int .i64 0] 134).drw hpre hng; have sx0 := sxb.at0; have sx1 := sxb.at1; have sf0 := sxb.fz 0 h02; have sf1 := sxb.fz 1 h12; have sxg := sxb.1; clear hpre) | (have hpre : Drw b0 g cv cn (w4.alloc (.cells #[.int .i64 0, .int .i64 0] 134)) w5 := hd5; have sxb := (Boxed.new w4 [.int .i64 0, .int .i64 0] 134).drw hpre hng; have sx0 := sxb.at0; have sx1 := sxb.at1; have sf0 := sxb.fz 0 h02; have sf1 := sxb.fz 1 h12; have sxg := sxb.1; clear hpre) | skip); have hb5 : b < w5.heap.size := (by have := Hd5.out.size; omega); have hs5 : b2 < w5.heap.size := (by have := Hd5.out.size; omega); have hqi : (q : Int) < ((setAt n.sets j).length : Int) := (by omega); have hq0 : (0 : Int) ≤ (q : Int) := (by omega); have Ho5 := Lib.hid (ownsRow_drw (row_ext Ho4.out (show Ext w4 _ from (by repeat (first | exact Ext.refl _ | assumption | refine Ext.alloc ?_ _ | refine Ext.drew ?_ | refine Ext.drewN ?_ _ | refine Ext.setCell ?_ (by first | (simp; done) | (simp; omega) | omega) _ | refine Ext.trans ?_ (by assumption))))) hd5 (by omega)); clear hbl hd5))
        all_goals
          go_wp2_with fail
          go_meet
          first
            | exact ⟨w5.heap.size, q, hq, rfl, by have := Hd5.out.size; omega, Lib.hid (Boxed.new w5 [.int .i64 (spAt (setAt n.sets j) q).fr, .int .i64 (spAt (setAt n.sets j) q).to] 134), Lib.hid (Hd5.out.alloc _), Lib.hid (row_ext Ho5.out (by repeat (first | exact Ext.refl _ | assumption | refine Ext.alloc ?_ _ | refine Ext.drew ?_ | refine Ext.drewN ?_ _ | refine Ext.setCell ?_ (by first | (simp; done) | (simp; omega) | omega) _ | refine Ext.trans ?_ (by assumption))))⟩
            | exact ⟨w4.heap.size, q, hq, rfl, by omega, Lib.hid ((sxb.set 0 (.int .i64 (spAt (setAt n.sets j) q).fr) (by simp)).set 1 (.int .i64 (spAt (setAt n.sets j) q).to) (by simp)), Lib.hid ((Hd5.out.setCell (by show _ ≤ w4.heap.size; omega) (by show _ < w4.heap.size; omega) _).setCell (by show _ ≤ w4.heap.size; omega) (by show _ < w4.heap.size; omega) _), Lib.hid (ownsRow_two Ho5.out (fun k hk => by have := (Ho4.out.lt k hk).2; omega))⟩
      obtain ⟨bx, q, hq, rfl, hbxz, HBx, Hd7, Ho7⟩ := hcut
      obtain ⟨wx, rfl⟩ : ∃ x : World, x = wc := ⟨_, rfl⟩
      have hspq := (Hset.out.2 q hq).1
      obtain ⟨⟨y0, y1⟩, ⟨y2, y3⟩, y4⟩ := hspq
      have xb0 := HBx.out.at0
      have xb1 := HBx.out.at1
      have xbg := HBx.out.1
      have hz7 := Hd7.out.size
      have hxg : bx ≠ g := by omega
      clear hc4 bx4 bg4 Ho4 Hd4 HS
      have W1 : IntKind.i64.wrap ((spAt (setAt n.sets j) q).to - (spAt (setAt n.sets j) q).fr) = (spAt (setAt n.sets j) q).to - (spAt (setAt n.sets j) q).fr := IntWalk.i64_in _ (by omega)
      have W2 : IntKind.i64.wrap ((spAt (setAt n.sets j) q).to - (spAt (setAt n.sets j) q).fr + 1) = (spAt (setAt n.sets j) q).to - (spAt (setAt n.sets j) q).fr + 1 := IntWalk.i64_in _ (by omega)
      go_wp2_with fail
      go_region_law (first
        | (go_simp; go_at_call 54; refine Calls.mono (spec_l01Next b0 g cn cv _ _ (Hd7.out.src.ext (by repeat (first | exact Ext.refl _ | assumption | refine Ext.alloc ?_ _ | refine Ext.drew ?_ | refine Ext.drewN ?_ _ | refine Ext.setCell ?_ (by first | (simp; done) | (simp; omega) | omega) _ | refine Ext.trans ?_ (by assumption))))) ?_; rintro e w8 ⟨r8, rfl, hbl, hd8⟩; have xc0 := ((HBx.out.ext (show Ext wx _ from (by repeat (first | exact Ext.refl _ | assumption | refine Ext.alloc ?_ _ | refine Ext.drew ?_ | refine Ext.drewN ?_ _ | refine Ext.setCell ?_ (by first | (simp; done) | (simp; omega) | omega) _ | refine Ext.trans ?_ (by assumption))))).drw hd8 hxg).at0; have xc1 := ((HBx.out.ext (show Ext wx _ from (by repeat (first | exact Ext.refl _ | assumption | refine Ext.alloc ?_ _ | refine Ext.drew ?_ | refine Ext.drewN ?_ _ | refine Ext.setCell ?_ (by first | (simp; done) | (simp; omega) | omega) _ | refine Ext.trans ?_ (by assumption))))).drw hd8 hxg).at1; have Hd8 := Lib.hid ((Hd7.out.ext (show Ext wx _ from (by repeat (first | exact Ext.refl _ | assumption | refine Ext.alloc ?_ _ | refine Ext.drew ?_ | refine Ext.drewN ?_ _ | refine Ext.setCell ?_ (by first | (simp; done) | (simp; omega) | omega) _ | refine Ext.trans ?_ (by assumption))))).trans hd8); have Ho8 := Lib.hid (ownsRow_drw (row_ext Ho7.out (show Ext wx _ from (by repeat (first | exact Ext.refl _ | assumption | refine Ext.alloc ?_ _ | refine Ext.drew ?_ | refine Ext.drewN ?_ _ | refine Ext.setCell ?_ (by first | (simp; done) | (simp; omega) | omega) _ | refine Ext.trans ?_ (by assumption))))) hd8 (by omega)); have hz8 := Hd8.out.size; have hr8 : 0 ≤ r8 := hbl.1; have hr9 : r8 ≤ 730499 := below_le hbl (by omega); have W3 : IntKind.i64.wrap ((spAt (setAt n.sets j) q).fr + r8) = (spAt (setAt n.sets j) q).fr + r8 := IntWalk.i64_in _ (by omega); clear hbl hd8))
      all_goals
        clear xb0 xb1 xc0 xc1 W1 W2 W3

        go_wp2_with (at_builtin; refine wpList_append_row _ rfl _ _ 28 rfl w0.heap.size 2 1 8 Tryz.underlying28 (by kernel_rfl) (by omega) _ l.length 1 _ rfl (.inl (row_ext Ho8.out (by repeat (first | exact Ext.refl _ | assumption | refine Ext.alloc ?_ _ | refine Ext.drew ?_ | refine Ext.drewN ?_ _ | refine Ext.setCell ?_ (by first | (simp; done) | (simp; omega) | omega) _ | refine Ext.trans ?_ (by assumption))))) (.inr (by omega)) 0 _ _ (intCell [(spAt (setAt n.sets j) q).fr + r8]) rfl ((Boxed.new w8 [.int .i64 ((spAt (setAt n.sets j) q).fr + r8)] 2).row rfl (one_int _)) (fun _ _ => rfl) (by unfold maxLen; omega) (by omega) (by simp; omega) ?_; intro v9 w9 hown9 hput9; have Ho9 := Lib.hid (intRow_push hown9); have Hd9 := Lib.hid ((Hd8.out.alloc _).put hgw hput9 (Nat.le_refl _)); clear hown9 hput9)
        go_roundg (n.sets.length - (j + 1))
        case measure => omega
        case rel => exact ⟨j + 1, l ++ [(spAt (setAt n.sets j) q).fr + r8], by omega, by simp; omega, by go_num, Hd9, Ho9⟩
    · have T1 : decide ((j : Int) < (n.sets.length : Int)) = false := decide_eq_false (by omega)
      obtain rfl : j = n.sets.length := by omega
      go_wp2_with fail
      go_ret
      refine ⟨_, l, rfl, ?_, hl, ownsRow_mono Ho.out (by omega)⟩
      exact ⟨(Off.of_ext Hx0.out).trans Hd.out.off, Hd.out.src⟩
end Go.Proofs.YtfmnkojjkjkdeaaGreatDoor
