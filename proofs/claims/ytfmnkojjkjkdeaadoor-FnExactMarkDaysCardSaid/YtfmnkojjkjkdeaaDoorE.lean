/- The laws' own helpers for spans, links, numbers, networks: sz.. (a bound on the sizes), to.. (a copy in new memory), eq.. (equal data compare equal). -/
import Derived.Test.YtfmnkojjkjkdeaaDoorD
namespace Go.Proofs.YtfmnkojjkjkdeaaDoor
set_option linter.unusedVariables false
set_option linter.unusedSimpArgs false
open Go.RowKit
attribute [local go_sem] cell_onto

/-- what sz.. returns: what is left; if anything is, P -/
def SzPost (left : Int) (p : Prop) (w : World) (e : Ending) (w' : World) : Prop := ∃ r : Int, e = .returned (.int .i64 r) ∧ Ext w w' ∧ -1 ≤ r ∧ r ≤ left ∧ (0 ≤ r → p)
/-- what to.. returns: a row in a new block -/
def NewRow (sz n : Nat) (f : Nat → Value) (w : World) (e : Ending) (w' : World) : Prop := ∃ v g, e = .returned v ∧ Ext w w' ∧ (0 < n → w.heap.size ≤ g) ∧ Own w' g sz v n f

set_option maxHeartbeats 400000 in
theorem laws_szSpanS (v : Value) (l : List Sp) (left : Int) (lo hi : Nat) (w : World) (hl : left ≤ 1048576) (h0 : 0 ≤ left) (h : Spans w lo hi v l) :
    Calls Tryd.prog 54 #[v, .int .i64 left] w (SzPost left ((l.length : Int) ≤ left) w) := by
  obtain ⟨A, c, rfl, hn, hc⟩ := h.len
  clear h
  go_enter Tryd.func54, Tryd.ntmps54
  go_wp2_with fail
  · go_ret
    exact ⟨-1, rfl, Ext.refl _, by omega, by omega, fun h => absurd h (by omega)⟩
  · go_ret
    exact ⟨left - (l.length : Int), rfl, Ext.refl _, by omega, by omega, fun _ => by omega⟩

set_option maxHeartbeats 400000 in
theorem laws_szLinkS (v : Value) (l : List Lk) (left : Int) (lo hi : Nat) (w : World) (hl : left ≤ 1048576) (h0 : 0 ≤ left) (h : Links w lo hi v l) :
    Calls Tryd.prog 24 #[v, .int .i64 left] w (SzPost left ((l.length : Int) ≤ left) w) := by
  obtain ⟨A, c, rfl, hn, hc⟩ := h.len
  clear h
  go_enter Tryd.func24, Tryd.ntmps24
  go_wp2_with fail
  · go_ret
    exact ⟨-1, rfl, Ext.refl _, by omega, by omega, fun h => absurd h (by omega)⟩
  · go_ret
    exact ⟨left - (l.length : Int), rfl, Ext.refl _, by omega, by omega, fun _ => by omega⟩


set_option maxHeartbeats 400000 in
theorem laws_szSpanSS (v : Value) (l : List (List Sp)) (left : Int) (w : World) (hl : left ≤ 1048576) (h0 : 0 ≤ left) (h : Sets w 0 w.heap.size v l) :
    Calls Tryd.prog 23 #[v, .int .i64 left] w (SzPost left ((l.length : Int) ≤ left ∧ ∀ i, i < l.length → ((setAt l i).length : Int) ≤ left) w) := by
  obtain ⟨A, c, rfl, hn, hc⟩ := h.len
  have H := Lib.hid h
  clear h
  go_enter Tryd.func23, Tryd.ntmps23
  go_wp2_with fail
  · go_ret
    exact ⟨-1, rfl, Ext.refl _, by omega, by omega, fun h => absurd h (by omega)⟩
  · go_loopg [1, 5] l.length (fun k p i wr => ∃ (j : Nat) (a : Int), j + k = l.length ∧ i = .int .i64 j ∧ p = .int .i64 a ∧ 0 ≤ a ∧ a ≤ left - l.length ∧ Ext w wr ∧ ∀ i, i < j → ((setAt l i).length : Int) ≤ left)
    case atStart => exact ⟨0, _, by omega, rfl, rfl, by omega, by omega, Ext.refl _, fun i hi => absurd hi (by omega)⟩
    case round =>
      obtain ⟨j, a, hj, rfl, rfl, ha0, ha1, hx, hok⟩ := hrel
      have Hok := Lib.hid hok
      clear hok
      by_cases hlt : j < l.length
      · obtain ⟨b, off, u, rfl, _, hb, h1, h2⟩ := (H.out.ext hx (Nat.le_refl _)).at_ hlt
        have H2 := Lib.hid h2
        clear h2
        go_wp2_with fail
        refine (laws_szSpanS u (setAt l j) a 0 w.heap.size wr (by omega) ha0 H2.out).mono ?_
        rintro e w1 ⟨r, rfl, hx1, hr1, hr2, hr3⟩
        have Hr := Lib.hid hr3
        clear hr3
        go_wp2_with fail
        · go_ret
          exact ⟨-1, rfl, (by repeat (first | exact Ext.refl _ | assumption | refine Ext.alloc ?_ _ | refine Ext.drew ?_ | refine Ext.drewN ?_ _ | refine Ext.setCell ?_ (by first | (simp; done) | (simp; omega) | omega) _ | refine Ext.trans ?_ (by assumption))), by omega, by omega, fun h => absurd h (by omega)⟩
        · have hle : ((setAt l j).length : Int) ≤ left := by have := Hr.out (by omega); omega
          go_roundg (l.length - (j + 1))
          case measure => omega
          case rel => exact ⟨j + 1, r, by omega, by go_num, rfl, by omega, by omega, (by repeat (first | exact Ext.refl _ | assumption | refine Ext.alloc ?_ _ | refine Ext.drew ?_ | refine Ext.drewN ?_ _ | refine Ext.setCell ?_ (by first | (simp; done) | (simp; omega) | omega) _ | refine Ext.trans ?_ (by assumption))), netOk_step (P := fun i => ((setAt l i).length : Int) ≤ left) Hok.out hle⟩
      · obtain rfl : j = l.length := by omega
        go_wp2_with fail
        go_ret
        exact ⟨a, rfl, (by repeat (first | exact Ext.refl _ | assumption | refine Ext.alloc ?_ _ | refine Ext.drew ?_ | refine Ext.drewN ?_ _ | refine Ext.setCell ?_ (by first | (simp; done) | (simp; omega) | omega) _ | refine Ext.trans ?_ (by assumption))), by omega, by omega, fun _ => ⟨by omega, Hok.out⟩⟩

/-- a network that the law's guard lets through -/
def Small (n : Net) : Prop := n.sets.length ≤ 1048576 ∧ n.links.length ≤ 1048576 ∧ ∀ i, i < n.sets.length → (setAt n.sets i).length ≤ 1048576

set_option maxHeartbeats 400000 in
theorem laws_szNetwork (s k : Value) (n : Net) (left : Int) (w : World) (hl : left ≤ 1048576) (h0 : 0 ≤ left) (h : NetIn w s k n) :
    Calls Tryd.prog 6 #[.agg #[s, k], .int .i64 left] w (SzPost left (Small n) w) := by
  obtain ⟨hs, hk⟩ := h
  have Hs := Lib.hid hs
  have Hk := Lib.hid hk
  clear hs hk
  go_enter Tryd.func6, Tryd.ntmps6
  go_wp2_with fail
  refine (laws_szSpanSS _ n.sets left _ hl h0 ((Hs.out.ext ((Ext.refl w).alloc _) (Nat.le_refl _)).mono (Nat.le_refl _) (by simp))).mono ?_
  rintro e w1 ⟨r, rfl, hx1, hr1, hr2, hr3⟩
  have hb := (Boxed.new w [s, k] 25).ext hx1
  have hb0 := hb.at0
  have hb1 := hb.at1
  have hbg := hb.1
  have Hr := Lib.hid hr3
  have Hb := Lib.hid hb
  have hx : Ext w w1 := ((Ext.refl w).alloc _).trans hx1
  clear hr3 hb
  go_wp2_with fail
  · go_ret
    exact ⟨-1, rfl, (by repeat (first | exact Ext.refl _ | assumption | refine Ext.alloc ?_ _ | refine Ext.drew ?_ | refine Ext.drewN ?_ _ | refine Ext.setCell ?_ (by first | (simp; done) | (simp; omega) | omega) _ | refine Ext.trans ?_ (by assumption))), by omega, by omega, fun h => absurd h (by omega)⟩
  · refine (laws_szLinkS k n.links r _ _ _ (by omega) (by omega) (Hk.out.ext hx (Nat.le_refl _))).mono ?_
    rintro e w2 ⟨r2, rfl, hx2, hq1, hq2, hq3⟩
    have Hq := Lib.hid hq3
    clear hq3
    go_wp2_with fail
    · go_ret
      exact ⟨-1, rfl, (by repeat (first | exact Ext.refl _ | assumption | refine Ext.alloc ?_ _ | refine Ext.drew ?_ | refine Ext.drewN ?_ _ | refine Ext.setCell ?_ (by first | (simp; done) | (simp; omega) | omega) _ | refine Ext.trans ?_ (by assumption))), by omega, by omega, fun h => absurd h (by omega)⟩
    · go_ret
      refine ⟨r2, rfl, (by repeat (first | exact Ext.refl _ | assumption | refine Ext.alloc ?_ _ | refine Ext.drew ?_ | refine Ext.drewN ?_ _ | refine Ext.setCell ?_ (by first | (simp; done) | (simp; omega) | omega) _ | refine Ext.trans ?_ (by assumption))), by omega, by omega, fun _ => ?_⟩
      have h1 := Hr.out (by omega)
      have h2 := Hq.out (by omega)
      exact ⟨by omega, by omega, fun i hi => by have := h1.2 i hi; omega⟩

set_option maxHeartbeats 400000 in
theorem laws_toSpan (a b : Int) (w : World) : Calls Tryd.prog 76 #[.agg #[.int .i64 a, .int .i64 b]] w (RetX (.agg #[.int .i64 a, .int .i64 b]) w) := by
  go_enter Tryd.func76, Tryd.ntmps76
  go_wp2_with fail
  refine bodyPost_ret (v := .agg #[.int .i64 a, .int .i64 b]) (by simp [results, Tryd.results76, go_sem]) rfl ⟨rfl, (by repeat (first | exact Ext.refl _ | assumption | refine Ext.alloc ?_ _ | refine Ext.drew ?_ | refine Ext.drewN ?_ _ | refine Ext.setCell ?_ (by first | (simp; done) | (simp; omega) | omega) _ | refine Ext.trans ?_ (by assumption)))⟩

set_option maxHeartbeats 400000 in
theorem laws_toLink (a b c d : Int) (w : World) : Calls Tryd.prog 58 #[.agg #[.int .i64 a, .int .i64 b, .int .i64 c, .int .i64 d]] w (RetX (.agg #[.int .i64 a, .int .i64 b, .int .i64 c, .int .i64 d]) w) := by
  go_enter Tryd.func58, Tryd.ntmps58
  go_wp2_with fail
  refine bodyPost_ret (v := .agg #[.int .i64 a, .int .i64 b, .int .i64 c, .int .i64 d]) (by simp [results, Tryd.results58, go_sem]) rfl ⟨rfl, (by repeat (first | exact Ext.refl _ | assumption | refine Ext.alloc ?_ _ | refine Ext.drew ?_ | refine Ext.drewN ?_ _ | refine Ext.setCell ?_ (by first | (simp; done) | (simp; omega) | omega) _ | refine Ext.trans ?_ (by assumption)))⟩
end Go.Proofs.YtfmnkojjkjkdeaaDoor
