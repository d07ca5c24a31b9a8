/- Texts merged (a claim holds at most sixty files): E, F, N, O. -/
import Derived.Test.YtfmnkojjkjkdeaaDoorR1A
/- The laws' own helpers for spans, links, numbers, networks: sz.. (a bound on the sizes), to.. (a copy in new memory), eq.. (equal data compare equal). -/
namespace Go.Proofs.YtfmnkojjkjkdeaaDoor
set_option linter.unusedVariables false
set_option linter.unusedSimpArgs false
open Go.RowKit
attribute [local go_sem] cell_onto

/-- what sz.. returns: what is left; if anything is, P -/
def SzPost (left : Int) (p : Prop) (w : World) (e : Ending) (w' : World) : Prop := ∃ r : Int, e = .returned (.int .i64 r) ∧ Ext w w' ∧ -1 ≤ r ∧ r ≤ left ∧ (0 ≤ r → p)
/-- what to.. returns: a row in a new block -/
def NewRow (sz n : Nat) (f : Nat → Value) (w : World) (e : Ending) (w' : World) : Prop := ∃ v g, e = .returned v ∧ Ext w w' ∧ (0 < n → w.heap.size ≤ g) ∧ Own w' g sz v n f

set_option maxHeartbeats 400000 in
theorem laws_szSpanS (v : Value) (l : List Sp) (left : Int) (lo hi : Nat) (w : World) (hl : left ≤ 1048576) (h0 : 0 ≤ left) (h : Spans w lo hi v l) :
    Calls Tryd.prog 54 #[v, .int .i64 left] w (SzPost left ((l.length : Int) ≤ left) w) := by
  obtain ⟨A, c, rfl, hn, hc⟩ := h.len
  clear h
  go_enter Tryd.func54, Tryd.ntmps54
  go_wp2_with fail
  · go_ret
    exact ⟨-1, rfl, Ext.refl _, by omega, by omega, fun h => absurd h (by omega)⟩
  · go_ret
    exact ⟨left - (l.length : Int), rfl, Ext.refl _, by omega, by omega, fun _ => by omega⟩

set_option maxHeartbeats 400000 in
theorem laws_szLinkS (v : Value) (l : List Lk) (left : Int) (lo hi : Nat) (w : World) (hl : left ≤ 1048576) (h0 : 0 ≤ left) (h : Links w lo hi v l) :
    Calls Tryd.prog 24 #[v, .int .i64 left] w (SzPost left ((l.length : Int) ≤ left) w) := by
  obtain ⟨A, c, rfl, hn, hc⟩ := h.len
  clear h
  go_enter Tryd.func24, Tryd.ntmps24
  go_wp2_with fail
  · go_ret
    exact ⟨-1, rfl, Ext.refl _, by omega, by omega, fun h => absurd h (by omega)⟩
  · go_ret
    exact ⟨left - (l.length : Int), rfl, Ext.refl _, by omega, by omega, fun _ => by omega⟩


set_option maxHeartbeats 400000 in
theorem laws_szSpanSS (v : Value) (l : List (List Sp)) (left : Int) (w : World) (hl : left ≤ 1048576) (h0 : 0 ≤ left) (h : Sets w 0 w.heap.size v l) :
    Calls Tryd.prog 23 #[v, .int .i64 left] w (SzPost left ((l.length : Int) ≤ left ∧ ∀ i, i < l.length → ((setAt l i).length : Int) ≤ left) w) := by
  obtain ⟨A, c, rfl, hn, hc⟩ := h.len
  have H := Lib.hid h
  clear h
  go_enter Tryd.func23, Tryd.ntmps23
  go_wp2_with fail
  · go_ret
    exact ⟨-1, rfl, Ext.refl _, by omega, by omega, fun h => absurd h (by omega)⟩
  · go_loopg [1, 5] l.length (fun k p i wr => ∃ (j : Nat) (a : Int), j + k = l.length ∧ i = .int .i64 j ∧ p = .int .i64 a ∧ 0 ≤ a ∧ a ≤ left - l.length ∧ Ext w wr ∧ ∀ i, i < j → ((setAt l i).length : Int) ≤ left)
    case atStart => exact ⟨0, _, by omega, rfl, rfl, by omega, by omega, Ext.refl _, fun i hi => absurd hi (by omega)⟩
    case round =>
      obtain ⟨j, a, hj, rfl, rfl, ha0, ha1, hx, hok⟩ := hrel
      have Hok := Lib.hid hok
      clear hok
      by_cases hlt : j < l.length
      · obtain ⟨b, off, u, rfl, _, hb, h1, h2⟩ := (H.out.ext hx (Nat.le_refl _)).at_ hlt
        have H2 := Lib.hid h2
        clear h2
        go_wp2_with fail
        refine (laws_szSpanS u (setAt l j) a 0 w.heap.size wr (by omega) ha0 H2.out).mono ?_
        rintro e w1 ⟨r, rfl, hx1, hr1, hr2, hr3⟩
        have Hr := Lib.hid hr3
        clear hr3
        go_wp2_with fail
        · go_ret
          exact ⟨-1, rfl, (by repeat (first | exact Ext.refl _ | assumption | refine Ext.alloc ?_ _ | refine Ext.drew ?_ | refine Ext.drewN ?_ _ | refine Ext.setCell ?_ (by first | (simp; done) | (simp; omega) | omega) _ | refine Ext.trans ?_ (by assumption))), by omega, by omega, fun h => absurd h (by omega)⟩
        · have hle : ((setAt l j).length : Int) ≤ left := by have := Hr.out (by omega); omega
          go_roundg (l.length - (j + 1))
          case measure => omega
          case rel => exact ⟨j + 1, r, by omega, by go_num, rfl, by omega, by omega, (by repeat (first | exact Ext.refl _ | assumption | refine Ext.alloc ?_ _ | refine Ext.drew ?_ | refine Ext.drewN ?_ _ | refine Ext.setCell ?_ (by first | (simp; done) | (simp; omega) | omega) _ | refine Ext.trans ?_ (by assumption))), netOk_step (P := fun i => ((setAt l i).length : Int) ≤ left) Hok.out hle⟩
      · obtain rfl : j = l.length := by omega
        go_wp2_with fail
        go_ret
        exact ⟨a, rfl, (by repeat (first | exact Ext.refl _ | assumption | refine Ext.alloc ?_ _ | refine Ext.drew ?_ | refine Ext.drewN ?_ _ | refine Ext.setCell ?_ (by first | (simp; done) | (simp; omega) | omega) _ | refine Ext.trans ?_ (by assumption))), by omega, by omega, fun _ => ⟨by omega, Hok.out⟩⟩

/-- a network that the law's guard lets through -/
def Small (n : Net) : Prop := n.sets.length ≤ 1048576 ∧ n.links.length ≤ 1048576 ∧ ∀ i, i < n.sets.length → (setAt n.sets i).length ≤ 1048576

set_option maxHeartbeats 400000 in
theorem laws_szNetwork (s k : Value) (n : Net) (left : Int) (w : World) (hl : left ≤ 1048576) (h0 : 0 ≤ left) (h : NetIn w s k n) :
    Calls Tryd.prog 6 #[.agg #[s, k], .int .i64 left] w (SzPost left (Small n) w) := by
  obtain ⟨hs, hk⟩ := h
  have Hs := Lib.hid hs
  have Hk := Lib.hid hk
  clear hs hk
  go_enter Tryd.func6, Tryd.ntmps6
  go_wp2_with fail
  refine (laws_szSpanSS _ n.sets left _ hl h0 ((Hs.out.ext ((Ext.refl w).alloc _) (Nat.le_refl _)).mono (Nat.le_refl _) (by simp))).mono ?_
  rintro e w1 ⟨r, rfl, hx1, hr1, hr2, hr3⟩
  have hb := (Boxed.new w [s, k] 25).ext hx1
  have hb0 := hb.at0
  have hb1 := hb.at1
  have hbg := hb.1
  have Hr := Lib.hid hr3
  have Hb := Lib.hid hb
  have hx : Ext w w1 := ((Ext.refl w).alloc _).trans hx1
  clear hr3 hb
  go_wp2_with fail
  · go_ret
    exact ⟨-1, rfl, (by repeat (first | exact Ext.refl _ | assumption | refine Ext.alloc ?_ _ | refine Ext.drew ?_ | refine Ext.drewN ?_ _ | refine Ext.setCell ?_ (by first | (simp; done) | (simp; omega) | omega) _ | refine Ext.trans ?_ (by assumption))), by omega, by omega, fun h => absurd h (by omega)⟩
  · refine (laws_szLinkS k n.links r _ _ _ (by omega) (by omega) (Hk.out.ext hx (Nat.le_refl _))).mono ?_
    rintro e w2 ⟨r2, rfl, hx2, hq1, hq2, hq3⟩
    have Hq := Lib.hid hq3
    clear hq3
    go_wp2_with fail
    · go_ret
      exact ⟨-1, rfl, (by repeat (first | exact Ext.refl _ | assumption | refine Ext.alloc ?_ _ | refine Ext.drew ?_ | refine Ext.drewN ?_ _ | refine Ext.setCell ?_ (by first | (simp; done) | (simp; omega) | omega) _ | refine Ext.trans ?_ (by assumption))), by omega, by omega, fun h => absurd h (by omega)⟩
    · go_ret
      refine ⟨r2, rfl, (by repeat (first | exact Ext.refl _ | assumption | refine Ext.alloc ?_ _ | refine Ext.drew ?_ | refine Ext.drewN ?_ _ | refine Ext.setCell ?_ (by first | (simp; done) | (simp; omega) | omega) _ | refine Ext.trans ?_ (by assumption))), by omega, by omega, fun _ => ?_⟩
      have h1 := Hr.out (by omega)
      have h2 := Hq.out (by omega)
      exact ⟨by omega, by omega, fun i hi => by have := h1.2 i hi; omega⟩

set_option maxHeartbeats 400000 in
theorem laws_toSpan (a b : Int) (w : World) : Calls Tryd.prog 76 #[.agg #[.int .i64 a, .int .i64 b]] w (RetX (.agg #[.int .i64 a, .int .i64 b]) w) := by
  go_enter Tryd.func76, Tryd.ntmps76
  go_wp2_with fail
  refine bodyPost_ret (v := .agg #[.int .i64 a, .int .i64 b]) (by simp [results, Tryd.results76, go_sem]) rfl ⟨rfl, (by repeat (first | exact Ext.refl _ | assumption | refine Ext.alloc ?_ _ | refine Ext.drew ?_ | refine Ext.drewN ?_ _ | refine Ext.setCell ?_ (by first | (simp; done) | (simp; omega) | omega) _ | refine Ext.trans ?_ (by assumption)))⟩

set_option maxHeartbeats 400000 in
theorem laws_toLink (a b c d : Int) (w : World) : Calls Tryd.prog 58 #[.agg #[.int .i64 a, .int .i64 b, .int .i64 c, .int .i64 d]] w (RetX (.agg #[.int .i64 a, .int .i64 b, .int .i64 c, .int .i64 d]) w) := by
  go_enter Tryd.func58, Tryd.ntmps58
  go_wp2_with fail
  refine bodyPost_ret (v := .agg #[.int .i64 a, .int .i64 b, .int .i64 c, .int .i64 d]) (by simp [results, Tryd.results58, go_sem]) rfl ⟨rfl, (by repeat (first | exact Ext.refl _ | assumption | refine Ext.alloc ?_ _ | refine Ext.drew ?_ | refine Ext.drewN ?_ _ | refine Ext.setCell ?_ (by first | (simp; done) | (simp; omega) | omega) _ | refine Ext.trans ?_ (by assumption)))⟩
end Go.Proofs.YtfmnkojjkjkdeaaDoor

/- The laws' own copies of slices (to..S) and comparisons (eq..). -/
namespace Go.Proofs.YtfmnkojjkjkdeaaDoor
set_option linter.unusedVariables false
set_option linter.unusedSimpArgs false
open Go.RowKit
attribute [local go_sem] cell_onto

set_option maxHeartbeats 1000000 in
theorem laws_toSpanS (v : Value) (l : List Sp) (lo hi : Nat) (w : World) (h : Spans w lo hi v l) (hh : hi ≤ w.heap.size) (hsm : l.length ≤ 1048576) :
    Calls Tryd.prog 57 #[v] w (NewRow 2 l.length (spanCell l) w) := by
  obtain ⟨A, c, rfl, hn, hc⟩ := h.len
  have H := Lib.hid h
  clear h
  go_enter Tryd.func57, Tryd.ntmps57
  go_wp2_with (at_make; refine wpList_make_blk _ rfl _ _ 38 rfl 74 2 16 Tryd.underlying38 (by kernel_rfl) l.length rfl rfl (by omega) (by unfold maxLen; omega) ?_; intro w0 f0 hx0 hb0)
  have Hb0 := Lib.hid hb0
  clear hb0
  go_wp2_with fail
  go_loopg [4] l.length (fun m i wr => ∃ (j : Nat) (f : Nat → Value), j + m = l.length ∧ i = .int .i64 j ∧ Ext w wr ∧ Blk wr w.heap.size (l.length * 2) f ∧ ∀ i, i < j * 2 → f i = spanCell l i)
  case atStart => exact ⟨0, f0, by omega, rfl, (by repeat (first | exact Ext.refl _ | assumption | refine Ext.alloc ?_ _ | refine Ext.drew ?_ | refine Ext.drewN ?_ _ | refine Ext.setCell ?_ (by first | (simp; done) | (simp; omega) | omega) _ | refine Ext.trans ?_ (by assumption))), Hb0.out, fun i hi => absurd hi (by omega)⟩
  case round =>
    obtain ⟨j, f, hj, rfl, hx, hbl, hok⟩ := hrel
    have Hok := Lib.hid hok
    clear hok
    have hbgr := hbl.1
    by_cases hlt : j < l.length
    · obtain ⟨b, off, rfl, _, hb, h1, h2⟩ := (H.out.ext hx hh).at_ hlt
      have hbw : b < wr.heap.size := by have := hx.size; omega
      go_wp2_with fail
      refine (laws_toSpan _ _ wr).mono ?_
      rintro e w1 ⟨rfl, hx1⟩
      have hc0 := (hbl.ext hx1).2 (j * 2) (by omega)
      have hc0a := hc0.1
      have hc0b := hc0.2
      have hc1 := (hbl.ext hx1).2 (j * 2 + 1) (by omega)
      have hc1a := hc1.1
      have hc1b := hc1.2
      have Hbl := Lib.hid (hbl.ext hx1)
      clear hbl
      have hbg := Hbl.out.1
      go_wp2_with fail
      go_roundg (l.length - (j + 1))
      case measure => omega
      case rel =>
        refine ⟨j + 1, _, by omega, by go_num, (by repeat (first | exact Ext.refl _ | assumption | refine Ext.alloc ?_ _ | refine Ext.drew ?_ | refine Ext.drewN ?_ _ | refine Ext.setCell ?_ (by first | (simp; done) | (simp; omega) | omega) _ | refine Ext.trans ?_ (by assumption))), ((Hbl.out.set (j * 2) (.int .i64 (spAt l j).fr) (by omega)).set (j * 2 + 1) (.int .i64 (spAt l j).to) (by omega)), fun i hi => ?_⟩
        by_cases e1 : i = j * 2 + 1
        · subst e1; simp [spanCell, show (j * 2 + 1) % 2 = 1 from by omega, show (j * 2 + 1) / 2 = j from by omega]
        rw [if_neg e1]
        by_cases e0 : i = j * 2
        · subst e0; simp [spanCell, show (j * 2) % 2 = 0 from by omega, show (j * 2) / 2 = j from by omega]
        rw [if_neg e0]
        exact Hok.out i (by omega)
    · obtain rfl : j = l.length := by omega
      have Hbl := Lib.hid hbl
      clear hbl
      go_wp2_with fail
      go_ret
      exact ⟨_, w.heap.size, rfl, (by repeat (first | exact Ext.refl _ | assumption | refine Ext.alloc ?_ _ | refine Ext.drew ?_ | refine Ext.drewN ?_ _ | refine Ext.setCell ?_ (by first | (simp; done) | (simp; omega) | omega) _ | refine Ext.trans ?_ (by assumption))), fun _ => Nat.le_refl _, Hbl.out.own (Nat.le_refl _) (by unfold maxLen; omega) (Nat.le_refl _) Hok.out⟩

set_option maxHeartbeats 1000000 in
theorem laws_toLinkS (v : Value) (l : List Lk) (lo hi : Nat) (w : World) (h : Links w lo hi v l) (hh : hi ≤ w.heap.size) (hsm : l.length ≤ 1048576) :
    Calls Tryd.prog 32 #[v] w (NewRow 4 l.length (linkCell l) w) := by
  obtain ⟨A, c, rfl, hn, hc⟩ := h.len
  have H := Lib.hid h
  clear h
  go_enter Tryd.func32, Tryd.ntmps32
  go_wp2_with (at_make; refine wpList_make_blk _ rfl _ _ 30 rfl 58 4 32 Tryd.underlying30 (by kernel_rfl) l.length rfl rfl (by omega) (by unfold maxLen; omega) ?_; intro w0 f0 hx0 hb0)
  have Hb0 := Lib.hid hb0
  clear hb0
  go_wp2_with fail
  go_loopg [4] l.length (fun m i wr => ∃ (j : Nat) (f : Nat → Value), j + m = l.length ∧ i = .int .i64 j ∧ Ext w wr ∧ Blk wr w.heap.size (l.length * 4) f ∧ ∀ i, i < j * 4 → f i = linkCell l i)
  case atStart => exact ⟨0, f0, by omega, rfl, (by repeat (first | exact Ext.refl _ | assumption | refine Ext.alloc ?_ _ | refine Ext.drew ?_ | refine Ext.drewN ?_ _ | refine Ext.setCell ?_ (by first | (simp; done) | (simp; omega) | omega) _ | refine Ext.trans ?_ (by assumption))), Hb0.out, fun i hi => absurd hi (by omega)⟩
  case round =>
    obtain ⟨j, f, hj, rfl, hx, hbl, hok⟩ := hrel
    have Hok := Lib.hid hok
    clear hok
    have hbgr := hbl.1
    by_cases hlt : j < l.length
    · obtain ⟨b, off, rfl, _, hb, h1, h2, h3, h4⟩ := (H.out.ext hx hh).at_ hlt
      have hbw : b < wr.heap.size := by have := hx.size; omega
      go_wp2_with fail
      refine (laws_toLink _ _ _ _ wr).mono ?_
      rintro e w1 ⟨rfl, hx1⟩
      have hc0 := (hbl.ext hx1).2 (j * 4) (by omega)
      have hc0a := hc0.1
      have hc0b := hc0.2
      have hc1 := (hbl.ext hx1).2 (j * 4 + 1) (by omega)
      have hc1a := hc1.1
      have hc1b := hc1.2
      have hc2 := (hbl.ext hx1).2 (j * 4 + 2) (by omega)
      have hc2a := hc2.1
      have hc2b := hc2.2
      have hc3 := (hbl.ext hx1).2 (j * 4 + 3) (by omega)
      have hc3a := hc3.1
      have hc3b := hc3.2
      have Hbl := Lib.hid (hbl.ext hx1)
      clear hbl
      have hbg := Hbl.out.1
      go_wp2_with fail
      go_roundg (l.length - (j + 1))
      case measure => omega
      case rel =>
        refine ⟨j + 1, _, by omega, by go_num, (by repeat (first | exact Ext.refl _ | assumption | refine Ext.alloc ?_ _ | refine Ext.drew ?_ | refine Ext.drewN ?_ _ | refine Ext.setCell ?_ (by first | (simp; done) | (simp; omega) | omega) _ | refine Ext.trans ?_ (by assumption))), ((((Hbl.out.set (j * 4) (.int .i64 (lkAt l j).be) (by omega)).set (j * 4 + 1) (.int .i64 (lkAt l j).af) (by omega)).set (j * 4 + 2) (.int .i64 (lkAt l j).le) (by omega)).set (j * 4 + 3) (.int .i64 (lkAt l j).mo) (by omega)), fun i hi => ?_⟩
        by_cases e3 : i = j * 4 + 3
        · subst e3; simp [linkCell, show (j * 4 + 3) % 4 = 3 from by omega, show (j * 4 + 3) / 4 = j from by omega]
        rw [if_neg e3]
        by_cases e2 : i = j * 4 + 2
        · subst e2; simp [linkCell, show (j * 4 + 2) % 4 = 2 from by omega, show (j * 4 + 2) / 4 = j from by omega]
        rw [if_neg e2]
        by_cases e1 : i = j * 4 + 1
        · subst e1; simp [linkCell, show (j * 4 + 1) % 4 = 1 from by omega, show (j * 4 + 1) / 4 = j from by omega]
        rw [if_neg e1]
        by_cases e0 : i = j * 4
        · subst e0; simp [linkCell, show (j * 4) % 4 = 0 from by omega, show (j * 4) / 4 = j from by omega]
        rw [if_neg e0]
        exact Hok.out i (by omega)
    · obtain rfl : j = l.length := by omega
      have Hbl := Lib.hid hbl
      clear hbl
      go_wp2_with fail
      go_ret
      exact ⟨_, w.heap.size, rfl, (by repeat (first | exact Ext.refl _ | assumption | refine Ext.alloc ?_ _ | refine Ext.drew ?_ | refine Ext.drewN ?_ _ | refine Ext.setCell ?_ (by first | (simp; done) | (simp; omega) | omega) _ | refine Ext.trans ?_ (by assumption))), fun _ => Nat.le_refl _, Hbl.out.own (Nat.le_refl _) (by unfold maxLen; omega) (Nat.le_refl _) Hok.out⟩


def NewSets (l : List (List Sp)) (w : World) (e : Ending) (w' : World) : Prop := ∃ v, e = .returned v ∧ Ext w w' ∧ OwnSets w' w.heap.size w'.heap.size v l
def NewNet (n : Net) (w : World) (e : Ending) (w' : World) : Prop := ∃ s k, e = .returned (.agg #[s, k]) ∧ Ext w w' ∧ OwnNet w' w.heap.size w'.heap.size (.agg #[s, k]) n

set_option maxHeartbeats 1000000 in
theorem laws_toSpanSS (v : Value) (l : List (List Sp)) (hi : Nat) (w : World) (h : Sets w 0 hi v l) (hh : hi ≤ w.heap.size) (hsm : l.length ≤ 1048576) (hsi : ∀ i, i < l.length → (setAt l i).length ≤ 1048576) :
    Calls Tryd.prog 31 #[v] w (NewSets l w) := by
  obtain ⟨A, c, rfl, hn, hc⟩ := h.len
  have H := Lib.hid h
  have Hsi := Lib.hid hsi
  clear h hsi
  go_enter Tryd.func31, Tryd.ntmps31
  go_wp2_with (at_make; refine wpList_make_blk _ rfl _ _ 29 rfl 38 1 24 Tryd.underlying29 (by kernel_rfl) l.length rfl rfl (by omega) (by unfold maxLen; omega) ?_; intro w0 f0 hx0 hb0)
  have Hb0 := Lib.hid hb0
  clear hb0
  go_wp2_with fail
  go_loopg [4] l.length (fun m i wr => ∃ (j : Nat) (f : Nat → Value) (g : Nat → Nat), j + m = l.length ∧ i = .int .i64 j ∧ Ext w wr ∧ Blk wr w.heap.size (l.length * 1) f ∧
    (∀ i, i < j → Own wr (g i) 2 (f i) (setAt l i).length (spanCell (setAt l i)) ∧ (0 < (setAt l i).length → w.heap.size < g i ∧ g i < wr.heap.size)) ∧ (∀ i i', i < j → i' < j → i ≠ i' → 0 < (setAt l i).length → 0 < (setAt l i').length → g i ≠ g i'))
  case atStart => exact ⟨0, f0, fun _ => 0, by omega, rfl, (by repeat (first | exact Ext.refl _ | assumption | refine Ext.alloc ?_ _ | refine Ext.drew ?_ | refine Ext.drewN ?_ _ | refine Ext.setCell ?_ (by first | (simp; done) | (simp; omega) | omega) _ | refine Ext.trans ?_ (by assumption))), Hb0.out, fun i hi => absurd hi (by omega), fun i i' hi => absurd hi (by omega)⟩
  case round =>
    obtain ⟨j, f, g, hj, rfl, hx, hbl, hok, hmo⟩ := hrel
    have Hok := Lib.hid hok
    have Hmo := Lib.hid hmo
    clear hok hmo
    have hbgr := hbl.1
    by_cases hlt : j < l.length
    · obtain ⟨b, off, u, rfl, _, hb, h1, h2⟩ := (H.out.ext hx hh).at_ hlt
      have H2 := Lib.hid h2
      clear h2
      go_wp2_with fail
      refine (laws_toSpanS u (setAt l j) 0 hi wr H2.out (Nat.le_trans hh hx.size) (Hsi.out j hlt)).mono ?_
      rintro e w1 ⟨v1, g1', rfl, hx1, hg1', hown'⟩
      obtain ⟨g1, hg1, hg2, hown⟩ : ∃ g, wr.heap.size ≤ g ∧ (0 < (setAt l j).length → g < w1.heap.size) ∧ Own w1 g 2 v1 (setAt l j).length (spanCell (setAt l j)) := by
        by_cases h0 : 0 < (setAt l j).length
        · exact ⟨g1', hg1' h0, fun _ => hown'.lt h0, hown'⟩
        · exact ⟨wr.heap.size, Nat.le_refl _, fun hh => absurd hh h0, hown'.any h0 _⟩
      clear hg1' hown'
      have hc0 := (hbl.ext hx1).2 j (by omega)
      have hc0a := hc0.1
      have hc0b := hc0.2
      have Hbl := Lib.hid (hbl.ext hx1)
      have Hown := Lib.hid hown
      clear hbl hown
      have hbg := Hbl.out.1
      obtain ⟨A1, c1, hv1⟩ : ∃ A1 c1, v1 = .slice A1 (setAt l j).length c1 := by
        obtain ⟨_, A1, c1, e, _⟩ := Hown.out
        exact ⟨A1, c1, e⟩
      have Hown' : Own w1 g1 2 (.slice A1 (setAt l j).length c1) (setAt l j).length (spanCell (setAt l j)) := hv1 ▸ Hown.out
      have HownH := Lib.hid Hown'
      subst hv1
      clear Hown Hown'
      go_wp2_with fail
      go_roundg (l.length - (j + 1))
      case measure => omega
      case rel =>
        refine ⟨j + 1, _, fun i => if i = j then g1 else g i, by omega, by go_num, (by repeat (first | exact Ext.refl _ | assumption | refine Ext.alloc ?_ _ | refine Ext.drew ?_ | refine Ext.drewN ?_ _ | refine Ext.setCell ?_ (by first | (simp; done) | (simp; omega) | omega) _ | refine Ext.trans ?_ (by assumption))), (Hbl.out.set j (.slice A1 (setAt l j).length c1) (by omega)), ?_, ?_⟩
        · have hset : ∀ {b n : Nat} {v : Value} {f : Nat → Value}, Own w1 b 2 v n f → (0 < n → w.heap.size < b) → Own (w1.setCell ⟨w.heap.size, j, none⟩ (.slice A1 (setAt l j).length c1)) b 2 v n f := fun ho hb => ho.setOther (fun hn => by have := hb hn; simp; omega) _
          intro i hi
          have hsz : (w1.setCell ⟨w.heap.size, j, none⟩ (.slice A1 (setAt l j).length c1)).heap.size = w1.heap.size := by simp [World.setCell]
          rw [hsz]
          by_cases e : i = j
          · subst e
            simp only [if_true]
            exact ⟨hset HownH.out (fun _ => by omega), fun hn => ⟨by omega, hg2 hn⟩⟩
          · simp only [if_neg e]
            have ho := Hok.out i (by omega)
            have hsz1 := hx1.size
            exact ⟨hset (ho.1.ext hx1) (fun hn => (ho.2 hn).1), fun hn => ⟨(ho.2 hn).1, by have := (ho.2 hn).2; omega⟩⟩
        · intro i i' h1 h2 hne hn hn'
          show (if i = j then g1 else g i) ≠ (if i' = j then g1 else g i')
          by_cases e : i = j
          · have e' : ¬ i' = j := by omega
            rw [if_pos e, if_neg e']
            have := ((Hok.out i' (by omega)).2 hn').2
            omega
          · rw [if_neg e]
            by_cases e' : i' = j
            · rw [if_pos e']
              have := ((Hok.out i (by omega)).2 hn).2
              omega
            · rw [if_neg e']
              exact Hmo.out i i' (by omega) (by omega) hne hn hn'
    · obtain rfl : j = l.length := by omega
      have Hbl := Lib.hid hbl
      clear hbl
      go_wp2_with fail
      go_ret
      refine ⟨_, rfl, (by repeat (first | exact Ext.refl _ | assumption | refine Ext.alloc ?_ _ | refine Ext.drew ?_ | refine Ext.drewN ?_ _ | refine Ext.setCell ?_ (by first | (simp; done) | (simp; omega) | omega) _ | refine Ext.trans ?_ (by assumption))), w.heap.size, f, g, Hbl.out.own (Nat.le_refl _) (by unfold maxLen; omega) (Nat.le_refl _) (fun i _ => rfl), fun _ => ⟨Nat.le_refl _, hbgr⟩, fun i hi => ⟨(Hok.out i hi).1, fun hn => ?_⟩, Hmo.out⟩
      have ho := (Hok.out i hi).2 hn
      exact ⟨by omega, ho.2, by omega⟩

set_option maxHeartbeats 1000000 in
theorem laws_toNetwork (s k : Value) (n : Net) (w : World) (h : NetIn w s k n) (hsm : Small n) :
    Calls Tryd.prog 8 #[.agg #[s, k]] w (NewNet n w) := by
  obtain ⟨hi, hhi, hh⟩ : ∃ hi, hi = w.heap.size ∧ hi ≤ w.heap.size := ⟨_, rfl, Nat.le_refl _⟩
  obtain ⟨hs, hk⟩ := h
  rw [← hhi] at hs hk
  clear hhi
  have Hs := Lib.hid hs
  have Hk := Lib.hid hk
  have Hsm := Lib.hid hsm
  clear hs hk hsm
  go_enter Tryd.func8, Tryd.ntmps8
  go_wp2_with fail
  refine (laws_toSpanSS s n.sets hi _ (Hs.out.ext ((by repeat (first | exact Ext.refl _ | assumption | refine Ext.alloc ?_ _ | refine Ext.drew ?_ | refine Ext.drewN ?_ _ | refine Ext.setCell ?_ (by first | (simp; done) | (simp; omega) | omega) _ | refine Ext.trans ?_ (by assumption))) : Ext w _) hh) (by simp; omega) Hsm.out.1 Hsm.out.2.2).mono ?_
  rintro e w1 ⟨v1, rfl, hx1, ho1⟩
  have hb1 := (((Boxed.new w [s, k] 25).ext (((Ext.refl _).alloc _).alloc _)).ext hx1)
  have hb2 : Boxed w1 (w.heap.size + 1) [.slice none 0 0, .slice none 0 0] := by
    have := (((Boxed.new (w.alloc _) [.slice none 0 0, .slice none 0 0] 32).ext ((Ext.refl _).alloc _)).ext hx1)
    rwa [World.size_alloc] at this
  have hb3 : Boxed w1 (w.heap.size + 1 + 1) [.slice none 0 0, .slice none 0 0] := by
    have := (Boxed.new ((w.alloc _).alloc _) [.slice none 0 0, .slice none 0 0] 32).ext hx1
    rwa [World.size_alloc, World.size_alloc] at this
  obtain ⟨A1, c1, rfl⟩ : ∃ A c, v1 = .slice A n.sets.length c := ho1.len
  have hx : Ext w w1 := (by repeat (first | exact Ext.refl _ | assumption | refine Ext.alloc ?_ _ | refine Ext.drew ?_ | refine Ext.drewN ?_ _ | refine Ext.setCell ?_ (by first | (simp; done) | (simp; omega) | omega) _ | refine Ext.trans ?_ (by assumption)))
  have ho1' : OwnSets w1 (w.heap.size + 3) w1.heap.size (.slice A1 n.sets.length c1) n.sets := by
    simpa only [World.size_alloc] using ho1
  have h10 := hb1.at0
  have h11 := hb1.at1
  have h30 := hb3.at0
  have f30 := hb3.fz 0 (by simp)
  have hz1 := hb1.1
  have hz3 := hb3.1
  have Hb1 := Lib.hid hb1
  have Hb2 := Lib.hid hb2
  have Hb3 := Lib.hid hb3
  have Ho1 := Lib.hid ho1'
  clear hb1 hb2 hb3 ho1 ho1' hx1
  go_wp2_with fail
  have hxx : Ext w (w1.setCell ⟨w.heap.size + 1 + 1, 0, none⟩ (.slice A1 n.sets.length c1)) := hx.setCell (by simp; omega) _
  refine (laws_toLinkS k n.links 0 hi _ (Hk.out.ext hxx hh) (by have := hxx.size; omega) Hsm.out.2.1).mono ?_
  rintro e w2 ⟨v2, gk, rfl, hx2, hg1', ho2⟩
  have Hgk := Lib.hid hg1'
  clear hg1'
  have hb2' := (Hb2.out.setOther (p := ⟨w.heap.size + 1 + 1, 0, none⟩) (by simp) (.slice A1 n.sets.length c1)).ext hx2
  have hb3' : Boxed w2 (w.heap.size + 1 + 1) [.slice A1 n.sets.length c1, .slice none 0 0] := (Hb3.out.set 0 (.slice A1 n.sets.length c1) (by simp)).ext hx2
  have ho1' := (Ho1.out.setOther (p := ⟨w.heap.size + 1 + 1, 0, none⟩) (.inl (by simp)) (.slice A1 n.sets.length c1)).ext hx2
  obtain ⟨A2, c2, rfl⟩ : ∃ A c, v2 = .slice A n.links.length c := ho2.len
  have hz : (w1.setCell ⟨w.heap.size + 1 + 1, 0, none⟩ (.slice A1 n.sets.length c1)).heap.size = w1.heap.size := by simp [World.setCell]
  have hz2 := hx2.size
  rw [hz] at hz2
  have hgk : 0 < n.links.length → w1.heap.size ≤ gk := by rw [← hz]; exact Hgk.out
  have Hgk2 := Lib.hid hgk
  clear hgk Hgk
  have hx' : Ext w w2 := hxx.trans hx2
  clear hxx hx2 hx
  have h20 := hb2'.at0
  have f20 := hb2'.fz 0 (by simp)
  have h21 := hb2'.at1
  have f21 := hb2'.fz 1 (by simp)
  have h30 := hb3'.at0
  have f30 := hb3'.fz 0 (by simp)
  have h31 := hb3'.at1
  have f31 := hb3'.fz 1 (by simp)
  have Hz := Lib.hid hz
  have Hb2 := Lib.hid hb2'
  have Hb3 := Lib.hid hb3'
  have Ho1 := Lib.hid ho1'
  have Ho2 := Lib.hid ho2
  clear hb2' hb3' ho1' ho2 hz
  go_wp2_with fail
  refine bodyPost_ret (v := .agg #[.slice A1 n.sets.length c1, .slice A2 n.links.length c2]) (by simp [results, Tryd.results8, go_sem, *]) rfl ⟨_, _, rfl, ?_, ?_⟩
  · refine Ext.setCell (Ext.setCell (Ext.setCell hx' ?_ _) ?_ _) ?_ _ <;> (simp; try omega)
  · refine ⟨_, _, w.heap.size + 3, w1.heap.size, gk, rfl, by omega, ?_, ?_, ?_, ?_⟩
    · simp [World.setCell]; omega
    · exact ((Ho1.out.setOther (.inl (by simp <;> omega)) _).setOther (.inl (by simp <;> omega)) _).setOther (.inl (by simp <;> omega)) _
    · exact ((Ho2.out.setOther (fun hn => by have := Hgk2.out hn; simp <;> omega) _).setOther (fun hn => by have := Hgk2.out hn; simp <;> omega) _).setOther (fun hn => by have := Hgk2.out hn; simp <;> omega) _
    · intro hn
      have h1 := Hgk2.out hn
      have h2 := Ho2.out.lt hn
      simp [World.setCell]
      omega

set_option maxHeartbeats 400000 in
theorem laws_eqSpan (a b : Int) (w : World) : Calls Tryd.prog 45 #[.agg #[.int .i64 a, .int .i64 b], .agg #[.int .i64 a, .int .i64 b]] w (RetX (.bool true) w) := by
  go_enter Tryd.func45, Tryd.ntmps45
  go_wp2_with fail
  go_ret
  exact ⟨rfl, (by repeat (first | exact Ext.refl _ | assumption | refine Ext.alloc ?_ _ | refine Ext.drew ?_ | refine Ext.drewN ?_ _ | refine Ext.setCell ?_ (by first | (simp; done) | (simp; omega) | omega) _ | refine Ext.trans ?_ (by assumption)))⟩

set_option maxHeartbeats 400000 in
theorem laws_eqLink (a b c d : Int) (w : World) : Calls Tryd.prog 64 #[.agg #[.int .i64 a, .int .i64 b, .int .i64 c, .int .i64 d], .agg #[.int .i64 a, .int .i64 b, .int .i64 c, .int .i64 d]] w (RetX (.bool true) w) := by
  go_enter Tryd.func64, Tryd.ntmps64
  go_wp2_with fail
  go_ret
  exact ⟨rfl, (by repeat (first | exact Ext.refl _ | assumption | refine Ext.alloc ?_ _ | refine Ext.drew ?_ | refine Ext.drewN ?_ _ | refine Ext.setCell ?_ (by first | (simp; done) | (simp; omega) | omega) _ | refine Ext.trans ?_ (by assumption)))⟩

set_option maxHeartbeats 1000000 in
theorem laws_eqSpanS (v v' : Value) (l : List Sp) (w : World) (h : Spans w 0 w.heap.size v l) (h' : Spans w 0 w.heap.size v' l) :
    Calls Tryd.prog 15 #[v, v'] w (RetX (.bool true) w) := by
  obtain ⟨A, c, rfl, hn, hc⟩ := h.len
  obtain ⟨A', c', rfl, _, hc'⟩ := h'.len
  have H := Lib.hid h
  have H' := Lib.hid h'
  clear h h'
  go_enter Tryd.func15, Tryd.ntmps15
  go_wp2_with fail
  go_loopg [5] l.length (fun k i wr => ∃ j : Nat, j + k = l.length ∧ i = .int .i64 j ∧ Ext w wr)
  case atStart => exact ⟨0, by omega, rfl, (by repeat (first | exact Ext.refl _ | assumption | refine Ext.alloc ?_ _ | refine Ext.drew ?_ | refine Ext.drewN ?_ _ | refine Ext.setCell ?_ (by first | (simp; done) | (simp; omega) | omega) _ | refine Ext.trans ?_ (by assumption)))⟩
  case round =>
    obtain ⟨j, hj, rfl, hx⟩ := hrel
    by_cases hlt : j < l.length
    · obtain ⟨b, off, rfl, _, hb, h1, h2⟩ := (H.out.ext hx (Nat.le_refl _)).at_ hlt
      obtain ⟨b', off', rfl, _, hb', h1', h2'⟩ := (H'.out.ext hx (Nat.le_refl _)).at_ hlt
      have hbr : b < wr.heap.size := Nat.lt_of_lt_of_le hb hx.size
      have hbr' : b' < wr.heap.size := Nat.lt_of_lt_of_le hb' hx.size
      go_wp2_with fail
      (refine wp_region_onto prog_mixed (by kernel_rfl) ?_; (repeat (go_big_quiet_step ((go_at_call 45; exact onto_callX (laws_eqSpan _ _ _))))); refine onto_end ?_; intro w1 hx1)
      go_wp2_with fail
      go_roundg (l.length - (j + 1))
      case measure => omega
      case rel => exact ⟨j + 1, by omega, by go_num, (by repeat (first | exact Ext.refl _ | assumption | refine Ext.alloc ?_ _ | refine Ext.drew ?_ | refine Ext.drewN ?_ _ | refine Ext.setCell ?_ (by first | (simp; done) | (simp; omega) | omega) _ | refine Ext.trans ?_ (by assumption)))⟩
    · obtain rfl : j = l.length := by omega
      go_wp2_with fail
      go_ret
      exact ⟨rfl, (by repeat (first | exact Ext.refl _ | assumption | refine Ext.alloc ?_ _ | refine Ext.drew ?_ | refine Ext.drewN ?_ _ | refine Ext.setCell ?_ (by first | (simp; done) | (simp; omega) | omega) _ | refine Ext.trans ?_ (by assumption)))⟩

set_option maxHeartbeats 1000000 in
theorem laws_eqLinkS (v v' : Value) (l : List Lk) (w : World) (h : Links w 0 w.heap.size v l) (h' : Links w 0 w.heap.size v' l) :
    Calls Tryd.prog 38 #[v, v'] w (RetX (.bool true) w) := by
  obtain ⟨A, c, rfl, hn, hc⟩ := h.len
  obtain ⟨A', c', rfl, _, hc'⟩ := h'.len
  have H := Lib.hid h
  have H' := Lib.hid h'
  clear h h'
  go_enter Tryd.func38, Tryd.ntmps38
  go_wp2_with fail
  go_loopg [5] l.length (fun k i wr => ∃ j : Nat, j + k = l.length ∧ i = .int .i64 j ∧ Ext w wr)
  case atStart => exact ⟨0, by omega, rfl, (by repeat (first | exact Ext.refl _ | assumption | refine Ext.alloc ?_ _ | refine Ext.drew ?_ | refine Ext.drewN ?_ _ | refine Ext.setCell ?_ (by first | (simp; done) | (simp; omega) | omega) _ | refine Ext.trans ?_ (by assumption)))⟩
  case round =>
    obtain ⟨j, hj, rfl, hx⟩ := hrel
    by_cases hlt : j < l.length
    · obtain ⟨b, off, rfl, _, hb, h1, h2, h3, h4⟩ := (H.out.ext hx (Nat.le_refl _)).at_ hlt
      obtain ⟨b', off', rfl, _, hb', h1', h2', h3', h4'⟩ := (H'.out.ext hx (Nat.le_refl _)).at_ hlt
      have hbr : b < wr.heap.size := Nat.lt_of_lt_of_le hb hx.size
      have hbr' : b' < wr.heap.size := Nat.lt_of_lt_of_le hb' hx.size
      go_wp2_with fail
      (refine wp_region_onto prog_mixed (by kernel_rfl) ?_; (repeat (go_big_quiet_step ((go_at_call 64; exact onto_callX (laws_eqLink _ _ _ _ _))))); refine onto_end ?_; intro w1 hx1)
      go_wp2_with fail
      go_roundg (l.length - (j + 1))
      case measure => omega
      case rel => exact ⟨j + 1, by omega, by go_num, (by repeat (first | exact Ext.refl _ | assumption | refine Ext.alloc ?_ _ | refine Ext.drew ?_ | refine Ext.drewN ?_ _ | refine Ext.setCell ?_ (by first | (simp; done) | (simp; omega) | omega) _ | refine Ext.trans ?_ (by assumption)))⟩
    · obtain rfl : j = l.length := by omega
      go_wp2_with fail
      go_ret
      exact ⟨rfl, (by repeat (first | exact Ext.refl _ | assumption | refine Ext.alloc ?_ _ | refine Ext.drew ?_ | refine Ext.drewN ?_ _ | refine Ext.setCell ?_ (by first | (simp; done) | (simp; omega) | omega) _ | refine Ext.trans ?_ (by assumption)))⟩


set_option maxHeartbeats 1000000 in
theorem laws_eqSpanSS (v v' : Value) (l : List (List Sp)) (w : World) (h : Sets w 0 w.heap.size v l) (h' : Sets w 0 w.heap.size v' l) :
    Calls Tryd.prog 37 #[v, v'] w (RetX (.bool true) w) := by
  obtain ⟨A, c, rfl, hn, hc⟩ := h.len
  obtain ⟨A', c', rfl, _, hc'⟩ := h'.len
  have H := Lib.hid h
  have H' := Lib.hid h'
  clear h h'
  go_enter Tryd.func37, Tryd.ntmps37
  go_wp2_with fail
  go_loopg [5] l.length (fun k i wr => ∃ j : Nat, j + k = l.length ∧ i = .int .i64 j ∧ Ext w wr)
  case atStart => exact ⟨0, by omega, rfl, (by repeat (first | exact Ext.refl _ | assumption | refine Ext.alloc ?_ _ | refine Ext.drew ?_ | refine Ext.drewN ?_ _ | refine Ext.setCell ?_ (by first | (simp; done) | (simp; omega) | omega) _ | refine Ext.trans ?_ (by assumption)))⟩
  case round =>
    obtain ⟨j, hj, rfl, hx⟩ := hrel
    by_cases hlt : j < l.length
    · obtain ⟨b, off, u, rfl, _, hb, h1, hu⟩ := (H.out.ext hx (Nat.le_refl _)).at_ hlt
      obtain ⟨b', off', u', rfl, _, hb', h1', hu'⟩ := (H'.out.ext hx (Nat.le_refl _)).at_ hlt
      have hbr : b < wr.heap.size := Nat.lt_of_lt_of_le hb hx.size
      have hbr' : b' < wr.heap.size := Nat.lt_of_lt_of_le hb' hx.size
      have Hu := Lib.hid (hu.mono (Nat.le_refl 0) hx.size)
      have Hu' := Lib.hid (hu'.mono (Nat.le_refl 0) hx.size)
      clear hu hu'
      go_wp2_with fail
      (refine wp_region_onto prog_mixed (by kernel_rfl) ?_; (repeat (go_big_quiet_step ((go_at_call 15; exact onto_callX (laws_eqSpanS _ _ (setAt l j) _ ((Hu.out.ext (onto_ext _ _) (Nat.le_refl _)).mono (Nat.le_refl _) (onto_ext _ _).size) ((Hu'.out.ext (onto_ext _ _) (Nat.le_refl _)).mono (Nat.le_refl _) (onto_ext _ _).size)))))); refine onto_end ?_; intro w1 hx1)
      go_wp2_with fail
      go_roundg (l.length - (j + 1))
      case measure => omega
      case rel => exact ⟨j + 1, by omega, by go_num, (by repeat (first | exact Ext.refl _ | assumption | refine Ext.alloc ?_ _ | refine Ext.drew ?_ | refine Ext.drewN ?_ _ | refine Ext.setCell ?_ (by first | (simp; done) | (simp; omega) | omega) _ | refine Ext.trans ?_ (by assumption)))⟩
    · obtain rfl : j = l.length := by omega
      go_wp2_with fail
      go_ret
      exact ⟨rfl, (by repeat (first | exact Ext.refl _ | assumption | refine Ext.alloc ?_ _ | refine Ext.drew ?_ | refine Ext.drewN ?_ _ | refine Ext.setCell ?_ (by first | (simp; done) | (simp; omega) | omega) _ | refine Ext.trans ?_ (by assumption)))⟩

set_option maxHeartbeats 400000 in
theorem laws_eqNetwork (s k s' k' : Value) (n : Net) (w : World) (h : NetIn w s k n) (h' : NetIn w s' k' n) :
    Calls Tryd.prog 10 #[.agg #[s, k], .agg #[s', k']] w (RetX (.bool true) w) := by
  obtain ⟨hs, hk⟩ := h
  obtain ⟨hs', hk'⟩ := h'
  have Hs := Lib.hid hs
  have Hk := Lib.hid hk
  have Hs' := Lib.hid hs'
  have Hk' := Lib.hid hk'
  clear hs hk hs' hk'
  go_enter Tryd.func10, Tryd.ntmps10
  go_wp2_with fail
  refine (laws_eqSpanSS s s' n.sets _ ((Hs.out.ext ((by repeat (first | exact Ext.refl _ | assumption | refine Ext.alloc ?_ _ | refine Ext.drew ?_ | refine Ext.drewN ?_ _ | refine Ext.setCell ?_ (by first | (simp; done) | (simp; omega) | omega) _ | refine Ext.trans ?_ (by assumption))) : Ext w _) (Nat.le_refl _)).mono (Nat.le_refl _) (by simp; omega)) ((Hs'.out.ext ((by repeat (first | exact Ext.refl _ | assumption | refine Ext.alloc ?_ _ | refine Ext.drew ?_ | refine Ext.drewN ?_ _ | refine Ext.setCell ?_ (by first | (simp; done) | (simp; omega) | omega) _ | refine Ext.trans ?_ (by assumption))) : Ext w _) (Nat.le_refl _)).mono (Nat.le_refl _) (by simp; omega))).mono ?_
  rintro e w1 ⟨rfl, hx1⟩
  have hb1 := ((Boxed.new w [s, k] 32).ext ((Ext.refl _).alloc _)).ext hx1
  have hb2 : Boxed w1 (w.heap.size + 1) [s', k'] := by
    have := (Boxed.new (w.alloc _) [s', k'] 32).ext hx1
    rwa [World.size_alloc] at this
  have hx : Ext w w1 := (by repeat (first | exact Ext.refl _ | assumption | refine Ext.alloc ?_ _ | refine Ext.drew ?_ | refine Ext.drewN ?_ _ | refine Ext.setCell ?_ (by first | (simp; done) | (simp; omega) | omega) _ | refine Ext.trans ?_ (by assumption)))
  have h11 := hb1.at1
  have h21 := hb2.at1
  have hz1 := hb1.1
  have hz2 := hb2.1
  clear hb1 hb2 hx1
  go_wp2_with fail
  refine (laws_eqLinkS k k' n.links _ ((Hk.out.ext hx (Nat.le_refl _)).mono (Nat.le_refl _) hx.size) ((Hk'.out.ext hx (Nat.le_refl _)).mono (Nat.le_refl _) hx.size)).mono ?_
  rintro e w2 ⟨rfl, hx2⟩
  go_wp2_with fail
  go_ret
  exact ⟨rfl, (by repeat (first | exact Ext.refl _ | assumption | refine Ext.alloc ?_ _ | refine Ext.drew ?_ | refine Ext.drewN ?_ _ | refine Ext.setCell ?_ (by first | (simp; done) | (simp; omega) | omega) _ | refine Ext.trans ?_ (by assumption)))⟩
end Go.Proofs.YtfmnkojjkjkdeaaDoor

/- The laws' own mark.. (writes consecutive numbers into all cells of a datum) and held.. (finds them there). -/
namespace Go.Proofs.YtfmnkojjkjkdeaaDoor
set_option linter.unusedVariables false
set_option linter.unusedSimpArgs false
open Go.RowKit
attribute [local go_sem] cell_onto

def numCell (k : Int) (i : Nat) : Value := .int .i64 (k + i)
/-- what mark.. leaves of a row: its cells hold consecutive numbers; no other block has turned -/
def MarkPost (b sz : Nat) (v : Value) (n : Nat) (k : Int) (w : World) (e : Ending) (w' : World) : Prop := e = .returned (.int .i64 (k + n * sz)) ∧ Off (fun x => 0 < n ∧ x = b) w w' ∧ Own w' b sz v n (numCell k)

set_option maxHeartbeats 1000000 in
theorem laws_markSpanS (v : Value) (b n : Nat) (f0 : Nat → Value) (k : Int) (w : World) (h : Own w b 2 v n f0) (hn : n ≤ 1048576) (hk0 : 0 ≤ k) (hk : k ≤ 1125899906842624) :
    Calls Tryd.prog 18 #[v, .int .i64 k] w (MarkPost b 2 v n k w) := by
  obtain ⟨A, c, rfl⟩ := h.len
  have H := Lib.hid h
  clear h
  go_enter Tryd.func18, Tryd.ntmps18
  go_wp2_with fail
  go_loopg [1, 5] n (fun q t i wr => ∃ (j : Nat) (f : Nat → Value), j + q = n ∧ i = .int .i64 j ∧ t = .int .i64 (k + (j : Int) * 2) ∧ Off (fun x => 0 < n ∧ x = b) w wr ∧ Own wr b 2 (.slice A n c) n f ∧ ∀ i, i < j * 2 → f i = numCell k i)
  case atStart => exact ⟨0, f0, by omega, rfl, by simp, Off.refl _ _, H.out, fun i hi => absurd hi (by omega)⟩
  case round =>
    obtain ⟨j, f, hj, rfl, rfl, hx, hown, hok⟩ := hrel
    have Hok := Lib.hid hok
    clear hok
    by_cases hlt : j < n
    · obtain ⟨off, rfl, hb, hc⟩ := hown.at_ (by omega)
      have Hown := Lib.hid hown
      clear hown
      have c0 := hc (j * 2 + 0) (by omega)
      have c0a : wr.cell? ⟨b, off + j * 2, none⟩ = some (f (j * 2 + 0)) := by have := c0.1; simpa only [Nat.add_assoc, Nat.add_zero, Nat.mul_one] using this
      have c0b : wr.frozen? ⟨b, off + j * 2, none⟩ = false := by have := c0.2; simpa only [Nat.add_assoc, Nat.add_zero, Nat.mul_one] using this
      have c1 := hc (j * 2 + 1) (by omega)
      have c1a : wr.cell? ⟨b, off + j * 2 + 1, none⟩ = some (f (j * 2 + 1)) := by have := c1.1; simpa only [Nat.add_assoc, Nat.add_zero, Nat.mul_one] using this
      have c1b : wr.frozen? ⟨b, off + j * 2 + 1, none⟩ = false := by have := c1.2; simpa only [Nat.add_assoc, Nat.add_zero, Nat.mul_one] using this
      clear hc c0 c1
      go_wp2_with fail
      go_roundg (n - (j + 1))
      case measure => omega
      case rel =>
        refine ⟨j + 1, _, by omega, by go_num, ?_, ?_, (by have := (Own.set (Own.set Hown.out (j * 2) (.int .i64 (k + (j : Int) * 2)) (by omega)) (j * 2 + 1) (.int .i64 (k + (j : Int) * 2 + 1)) (by omega)); simpa only [Nat.add_assoc] using this), fun i hi => ?_⟩
        · congr 1; simp; omega
        · repeat (first | exact hx | refine Off.setCell ?_ (.inl ⟨by omega, rfl⟩) _)
        by_cases e1 : i = j * 2 + 1
        · rw [if_pos e1]; unfold numCell; congr 1; omega
        rw [if_neg e1]
        by_cases e0 : i = j * 2
        · rw [if_pos e0]; unfold numCell; congr 1; omega
        rw [if_neg e0]
        exact Hok.out i (by omega)
    · obtain rfl : j = n := by omega
      have Hown := Lib.hid hown
      clear hown
      go_wp2_with fail
      go_ret
      exact ⟨by first | rfl | simp, hx, Hown.out.congr Hok.out⟩

set_option maxHeartbeats 1000000 in
theorem laws_heldSpanS (v : Value) (lo hi n : Nat) (k : Int) (w : World) (h : Row w lo hi 2 v n (numCell k)) (hh : hi ≤ w.heap.size) (hn : n ≤ 1048576) (hk0 : 0 ≤ k) (hk : k ≤ 1125899906842624) :
    Calls Tryd.prog 19 #[v, .int .i64 k] w (RetX (.int .i64 (k + n * 2)) w) := by
  obtain ⟨_, A, c, rfl, hc0, hr⟩ := h
  have Hr := Lib.hid hr
  clear hr
  go_enter Tryd.func19, Tryd.ntmps19
  go_wp2_with fail
  go_loopg [1, 5] n (fun q t i wr => ∃ (j : Nat), j + q = n ∧ i = .int .i64 j ∧ t = .int .i64 (k + (j : Int) * 2) ∧ Ext w wr)
  case atStart => exact ⟨0, by omega, rfl, by simp, (by repeat (first | exact Ext.refl _ | assumption | refine Ext.alloc ?_ _ | refine Ext.drew ?_ | refine Ext.drewN ?_ _ | refine Ext.setCell ?_ (by first | (simp; done) | (simp; omega) | omega) _ | refine Ext.trans ?_ (by assumption)))⟩
  case round =>
    obtain ⟨j, hj, rfl, rfl, hx⟩ := hrel
    by_cases hlt : j < n
    · obtain ⟨b, off, rfl, _, hb', hc⟩ := Hr.out (by omega)
      have hb : b < w.heap.size := by omega
      have c0 : wr.cell? ⟨b, off + j * 2, none⟩ = some (.int .i64 (k + (j : Int) * 2)) := by have := (hx.cell (p := ⟨b, off + (j * 2 + 0), none⟩) hb).trans (hc (j * 2 + 0) (by omega)); (try simp only [Nat.add_zero, ← Nat.add_assoc] at this); rw [this]; unfold numCell; congr 2; (try simp); (try omega)
      have c1 : wr.cell? ⟨b, off + j * 2 + 1, none⟩ = some (.int .i64 (k + (j : Int) * 2 + 1)) := by have := (hx.cell (p := ⟨b, off + (j * 2 + 1), none⟩) hb).trans (hc (j * 2 + 1) (by omega)); (try simp only [Nat.add_zero, ← Nat.add_assoc] at this); rw [this]; unfold numCell; congr 2; (try simp); (try omega)
      clear hc
      go_wp2_with fail
      go_roundg (n - (j + 1))
      case measure => omega
      case rel => exact ⟨j + 1, by omega, by go_num, by congr 1; simp; omega, (by repeat (first | exact Ext.refl _ | assumption | refine Ext.alloc ?_ _ | refine Ext.drew ?_ | refine Ext.drewN ?_ _ | refine Ext.setCell ?_ (by first | (simp; done) | (simp; omega) | omega) _ | refine Ext.trans ?_ (by assumption)))⟩
    · obtain rfl : j = n := by omega
      go_wp2_with fail
      go_ret
      exact ⟨rfl, (by repeat (first | exact Ext.refl _ | assumption | refine Ext.alloc ?_ _ | refine Ext.drew ?_ | refine Ext.drewN ?_ _ | refine Ext.setCell ?_ (by first | (simp; done) | (simp; omega) | omega) _ | refine Ext.trans ?_ (by assumption)))⟩




end Go.Proofs.YtfmnkojjkjkdeaaDoor

/- The laws' own mark.. and held.. of slices of slices of spans, and of networks. -/
namespace Go.Proofs.YtfmnkojjkjkdeaaDoor
set_option linter.unusedVariables false
set_option linter.unusedSimpArgs false
open Go.RowKit
attribute [local go_sem] cell_onto

/-- the cells of the first i sets -/
def preLen (l : List (List Sp)) : Nat → Nat
  | 0 => 0
  | i + 1 => preLen l i + (setAt l i).length * 2
theorem preLen_le (l : List (List Sp)) (h : ∀ i, i < l.length → (setAt l i).length ≤ 1048576) : ∀ i, i ≤ l.length → preLen l i ≤ i * 2097152
  | 0, _ => Nat.zero_le _
  | i + 1, hi => by
    have h1 := preLen_le l h i (by omega)
    have h2 := h i (by omega)
    unfold preLen
    omega
/-- sets whose cells hold consecutive numbers from k on -/
def MarkedSets (w : World) (lo hi : Nat) (v : Value) (l : List (List Sp)) (k : Int) : Prop :=
  ∃ f : Nat → Value, Row w lo hi 1 v l.length f ∧ ∀ i, i < l.length → Row w lo hi 2 (f i) (setAt l i).length (numCell (k + preLen l i))
def MarkedNet (w : World) (lo hi : Nat) (v : Value) (n : Net) (k : Int) : Prop :=
  ∃ s kk, v = .agg #[s, kk] ∧ MarkedSets w lo hi s n.sets k ∧ Row w lo hi 4 kk n.links.length (numCell (k + preLen n.sets n.sets.length))
/-- what mark.. leaves: cells in [lo, hi) turned, consecutive numbers stand in them (M), m is the next number -/
def MarkP (lo hi : Nat) (m : Int) (M : World → Prop) (w : World) (e : Ending) (w' : World) : Prop := e = .returned (.int .i64 m) ∧ Off (fun x => lo ≤ x ∧ x < hi) w w' ∧ M w'
/-- rows in memory of their own -/
def OwnInts (w : World) (lo hi : Nat) (v : Value) (l : List Int) : Prop := ∃ g, (0 < l.length → lo ≤ g ∧ g < hi) ∧ Own w g 1 v l.length (intCell l)
def OwnSpans (w : World) (lo hi : Nat) (v : Value) (l : List Sp) : Prop := ∃ g, (0 < l.length → lo ≤ g ∧ g < hi) ∧ Own w g 2 v l.length (spanCell l)
def MarkedInts (w : World) (lo hi : Nat) (v : Value) (l : List Int) (k : Int) : Prop := Row w lo hi 1 v l.length (numCell k)
def MarkedSpans (w : World) (lo hi : Nat) (v : Value) (l : List Sp) (k : Int) : Prop := Row w lo hi 2 v l.length (numCell k)
/-- a network's parts, read within [lo, hi) -/
def NetAt (w : World) (lo hi : Nat) (s k : Value) (n : Net) : Prop := Sets w lo hi s n.sets ∧ Links w lo hi k n.links
def netCells (n : Net) : Nat := preLen n.sets n.sets.length + n.links.length * 4
theorem netCells_le (n : Net) (h : Small n) : netCells n ≤ 2199027449856 := by
  have h1 := preLen_le n.sets h.2.2 _ (Nat.le_refl _)
  have h2 := h.1
  have h3 := h.2.1
  unfold netCells
  omega
section
variable {w w' : World} {lo hi lo' hi' : Nat} {v : Value} {k : Int}
theorem OwnInts.ext {l : List Int} (h : OwnInts w lo hi v l) (hx : Ext w w') (hh : hi ≤ w.heap.size) : OwnInts w' lo hi v l := by
  obtain ⟨g, h1, h2⟩ := h
  exact ⟨g, h1, h2.ext hx⟩
theorem OwnInts.off {S : Nat → Prop} {l : List Int} (h : OwnInts w lo hi v l) (hx : Off S w w') (hs : ∀ k, lo ≤ k → k < hi → ¬ S k) (hh : hi ≤ w.heap.size) : OwnInts w' lo hi v l := by
  obtain ⟨g, h1, h2⟩ := h
  exact ⟨g, h1, h2.off hx (fun hn => hs g (h1 hn).1 (h1 hn).2)⟩
theorem OwnInts.ints {l : List Int} (h : OwnInts w lo hi v l) : Ints w lo hi v l := by
  obtain ⟨g, h1, h2⟩ := h
  exact h2.row h1
theorem OwnInts.len {l : List Int} (h : OwnInts w lo hi v l) : ∃ A c, v = .slice A l.length c := by
  obtain ⟨g, h1, h2⟩ := h
  exact h2.len
theorem OwnSpans.ext {l : List Sp} (h : OwnSpans w lo hi v l) (hx : Ext w w') (hh : hi ≤ w.heap.size) : OwnSpans w' lo hi v l := by
  obtain ⟨g, h1, h2⟩ := h
  exact ⟨g, h1, h2.ext hx⟩
theorem OwnSpans.off {S : Nat → Prop} {l : List Sp} (h : OwnSpans w lo hi v l) (hx : Off S w w') (hs : ∀ k, lo ≤ k → k < hi → ¬ S k) (hh : hi ≤ w.heap.size) : OwnSpans w' lo hi v l := by
  obtain ⟨g, h1, h2⟩ := h
  exact ⟨g, h1, h2.off hx (fun hn => hs g (h1 hn).1 (h1 hn).2)⟩
theorem OwnSpans.spans {l : List Sp} (h : OwnSpans w lo hi v l) : Spans w lo hi v l := by
  obtain ⟨g, h1, h2⟩ := h
  exact h2.row h1
theorem OwnSpans.len {l : List Sp} (h : OwnSpans w lo hi v l) : ∃ A c, v = .slice A l.length c := by
  obtain ⟨g, h1, h2⟩ := h
  exact h2.len
theorem OwnNet.ext' {n : Net} (h : OwnNet w lo hi v n) (hx : Ext w w') (hh : hi ≤ w.heap.size) : OwnNet w' lo hi v n := h.ext hx
theorem OwnNet.off' {S : Nat → Prop} {n : Net} (h : OwnNet w lo hi v n) (hx : Off S w w') (hs : ∀ k, lo ≤ k → k < hi → ¬ S k) (hh : hi ≤ w.heap.size) : OwnNet w' lo hi v n := h.off hx hs
theorem NetAt.ext {s k : Value} {n : Net} (h : NetAt w lo hi s k n) (hx : Ext w w') (hh : hi ≤ w.heap.size) : NetAt w' lo hi s k n := ⟨h.1.ext hx hh, h.2.ext hx hh⟩
theorem NetAt.off {S : Nat → Prop} {s k : Value} {n : Net} (h : NetAt w lo hi s k n) (hx : Off S w w') (hs : ∀ k, lo ≤ k → k < hi → ¬ S k) (hh : hi ≤ w.heap.size) : NetAt w' lo hi s k n := ⟨h.1.off hx hs hh, Row.off h.2 hx hs hh⟩
theorem NetAt.up {s k : Value} {n : Net} (h : NetAt w lo hi s k n) (hh : hi ≤ w.heap.size) (hx : Ext w w') : NetIn w' s k n := NetIn.up ⟨h.1.mono (Nat.zero_le _) hh, h.2.mono (Nat.zero_le _) hh⟩ hx
theorem Ints.upAt {l : List Int} (h : Ints w lo hi v l) (hh : hi ≤ w.heap.size) (hx : Ext w w') : Ints w' 0 w'.heap.size v l := Ints.up (h.mono (Nat.zero_le _) hh) hx
theorem Spans.upAt {l : List Sp} (h : Spans w lo hi v l) (hh : hi ≤ w.heap.size) (hx : Ext w w') : Spans w' 0 w'.heap.size v l := Spans.up (h.mono (Nat.zero_le _) hh) hx
theorem OwnNet.at_ {s k : Value} {n : Net} (h : OwnNet w lo hi (.agg #[s, k]) n) : NetAt w lo hi s k n := by
  obtain ⟨s', k', e, h1, h2⟩ := h.net
  injection e with e
  injection e with e
  injection e with e1 e2
  injection e2 with e2 _
  subst e1 e2
  exact ⟨h1, h2⟩
theorem MarkedSets.ext {l : List (List Sp)} (h : MarkedSets w lo hi v l k) (hx : Ext w w') (hh : hi ≤ w.heap.size) : MarkedSets w' lo hi v l k := by
  obtain ⟨f, h1, h2⟩ := h
  exact ⟨f, h1.ext hx hh, fun i hi => (h2 i hi).ext hx hh⟩
theorem MarkedSets.off {S : Nat → Prop} {l : List (List Sp)} (h : MarkedSets w lo hi v l k) (hx : Off S w w') (hs : ∀ k, lo ≤ k → k < hi → ¬ S k) (hh : hi ≤ w.heap.size) : MarkedSets w' lo hi v l k := by
  obtain ⟨f, h1, h2⟩ := h
  exact ⟨f, h1.off hx hs hh, fun i hi => (h2 i hi).off hx hs hh⟩
theorem MarkedSets.mono {l : List (List Sp)} (h : MarkedSets w lo hi v l k) (h1 : lo' ≤ lo) (h2 : hi ≤ hi') : MarkedSets w lo' hi' v l k := by
  obtain ⟨f, h3, h4⟩ := h
  exact ⟨f, h3.mono h1 h2, fun i hi => (h4 i hi).mono h1 h2⟩
theorem MarkedNet.ext {n : Net} (h : MarkedNet w lo hi v n k) (hx : Ext w w') (hh : hi ≤ w.heap.size) : MarkedNet w' lo hi v n k := by
  obtain ⟨s, kk, e, h1, h2⟩ := h
  exact ⟨s, kk, e, h1.ext hx hh, h2.ext hx hh⟩
theorem MarkedNet.off {S : Nat → Prop} {n : Net} (h : MarkedNet w lo hi v n k) (hx : Off S w w') (hs : ∀ k, lo ≤ k → k < hi → ¬ S k) (hh : hi ≤ w.heap.size) : MarkedNet w' lo hi v n k := by
  obtain ⟨s, kk, e, h1, h2⟩ := h
  exact ⟨s, kk, e, h1.off hx hs hh, h2.off hx hs hh⟩
end





/-! ### mark.. and held.. of rows in memory of their own, said alike -/
theorem markSpans (v : Value) (lo hi : Nat) (l : List Sp) (k : Int) (w : World) (h : OwnSpans w lo hi v l) (hn : l.length ≤ 1048576) (hk0 : 0 ≤ k) (hk : k ≤ 562949953421312) :
    Calls Tryd.prog 18 #[v, .int .i64 k] w (MarkP lo hi (k + l.length * 2) (fun w' => MarkedSpans w' lo hi v l k) w) := by
  obtain ⟨g, h1, h2⟩ := h
  refine Calls.mono (laws_markSpanS v g _ _ k w h2 hn hk0 (by omega)) ?_
  rintro e w1 ⟨rfl, hx1, hm1⟩
  exact ⟨rfl, hx1.mono (fun x hx => by have := h1 hx.1; have := hx.2; omega), hm1.row h1⟩
end Go.Proofs.YtfmnkojjkjkdeaaDoor
