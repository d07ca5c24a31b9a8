/- slices.IndexFunc and ContainsFunc over spans, sets, links, numbers: by the contract of the function value. -/
import Derived.Test.YtfmnkojjkjkdeaaDoorA
namespace Go.Proofs.YtfmnkojjkjkdeaaDoor
set_option linter.unusedVariables false
set_option linter.unusedSimpArgs false
open Go.RowKit
attribute [local go_sem] cell_onto

/-- what IndexFunc returns: the first index of which p holds, or -1 -/
def RetIdx (n : Nat) (p : Nat → Prop) (w : World) (e : Ending) (w' : World) : Prop :=
  ∃ r : Int, e = .returned (.int .i64 r) ∧ Ext w w' ∧ ((r = -1 ∧ ∀ i, i < n → ¬ p i) ∨ (0 ≤ r ∧ ∃ i, i < n ∧ p i))
/-- what ContainsFunc asks -/
def Some_ (n : Nat) (p : Nat → Prop) : Prop := ∃ i, i < n ∧ p i


set_option maxHeartbeats 400000 in
theorem indexFunc_links (v : Value) (l : List Lk) (g : Nat) (caps : Array Value) (p : Nat → Prop) (w : World) (h : Links w 0 w.heap.size v l)
    (hg : ∀ (args : Array Value) (w : World), (callFunc g args).run Tryd.prog w = .ok (.enter g args) w)
    (hf : ∀ (i : Nat) (w' : World), i < l.length → Ext w w' → Calls Tryd.prog g (#[.agg #[.int .i64 (lkAt l i).be, .int .i64 (lkAt l i).af, .int .i64 (lkAt l i).le, .int .i64 (lkAt l i).mo]] ++ caps) w' (RetX (.bool (B (p i))) w')) :
    Calls Tryd.prog 80 #[v, .func (.func g) #[] caps] w (RetIdx l.length p w) := by
  obtain ⟨A, c, rfl, hn, hc⟩ := h.len
  have H := Lib.hid h
  have Hf := Lib.hid hf
  clear h hf
  go_enter Tryd.func80, Tryd.ntmps80
  go_wp2_with fail
  go_loopg [8] l.length (fun k i wr => ∃ j : Nat, j + k = l.length ∧ i = .int .i64 j ∧ Ext w wr ∧ ∀ i, i < j → ¬ p i)
  case atStart => exact ⟨0, by omega, rfl, Ext.refl _, fun i hi => absurd hi (by omega)⟩
  case round =>
    obtain ⟨j, hj, rfl, hx, hok⟩ := hrel
    have Hok := Lib.hid hok
    clear hok
    by_cases hlt : j < l.length
    · obtain ⟨b, off, rfl, _, hb, h1, h2, h3, h4⟩ := (H.out.ext hx (Nat.le_refl _)).at_ hlt
      go_wp2_with fail
      refine (Hf.out j wr hlt hx).mono ?_
      rintro e w1 ⟨rfl, hx1⟩
      go_wp2_with fail
      · go_ret
        exact ⟨j, rfl, (by repeat (first | exact Ext.refl _ | assumption | refine Ext.alloc ?_ _ | refine Ext.drew ?_ | refine Ext.drewN ?_ _ | refine Ext.setCell ?_ (by first | (simp; done) | (simp; omega) | omega) _ | refine Ext.trans ?_ (by assumption))), .inr ⟨by omega, j, hlt, B_iff.1 (by assumption)⟩⟩
      · go_roundg (l.length - (j + 1))
        case measure => omega
        case rel =>
          refine ⟨j + 1, by omega, by go_num, (by repeat (first | exact Ext.refl _ | assumption | refine Ext.alloc ?_ _ | refine Ext.drew ?_ | refine Ext.drewN ?_ _ | refine Ext.setCell ?_ (by first | (simp; done) | (simp; omega) | omega) _ | refine Ext.trans ?_ (by assumption))), fun i hi => ?_⟩
          by_cases e : i = j
          · rw [e]
            exact B_not.1 (by first | assumption | (simp only [← Bool.not_eq_true]; assumption))
          · exact Hok.out i (by omega)
    · obtain rfl : j = l.length := by omega
      go_wp2_with fail
      go_ret
      exact ⟨-1, rfl, (by repeat (first | exact Ext.refl _ | assumption | refine Ext.alloc ?_ _ | refine Ext.drew ?_ | refine Ext.drewN ?_ _ | refine Ext.setCell ?_ (by first | (simp; done) | (simp; omega) | omega) _ | refine Ext.trans ?_ (by assumption))), .inl ⟨rfl, Hok.out⟩⟩

set_option maxHeartbeats 400000 in
theorem containsFunc_links (v : Value) (l : List Lk) (g : Nat) (caps : Array Value) (p : Nat → Prop) (w : World) (h : Links w 0 w.heap.size v l)
    (hg : ∀ (args : Array Value) (w : World), (callFunc g args).run Tryd.prog w = .ok (.enter g args) w)
    (hf : ∀ (i : Nat) (w' : World), i < l.length → Ext w w' → Calls Tryd.prog g (#[.agg #[.int .i64 (lkAt l i).be, .int .i64 (lkAt l i).af, .int .i64 (lkAt l i).le, .int .i64 (lkAt l i).mo]] ++ caps) w' (RetX (.bool (B (p i))) w')) :
    Calls Tryd.prog 60 #[v, .func (.func g) #[] caps] w (RetX (.bool (B (Some_ l.length p))) w) := by
  have H := Lib.hid (indexFunc_links v l g caps p w h hg hf)
  clear h hf hg
  go_enter Tryd.func60, Tryd.ntmps60
  go_wp2_with fail
  refine H.out.mono ?_
  rintro e w1 ⟨r, rfl, hx, hr⟩
  have Hr := Lib.hid hr
  clear hr
  go_wp2_with fail
  go_ret
  refine ⟨ret_bool (B_eq ?_), (by repeat (first | exact Ext.refl _ | assumption | refine Ext.alloc ?_ _ | refine Ext.drew ?_ | refine Ext.drewN ?_ _ | refine Ext.setCell ?_ (by first | (simp; done) | (simp; omega) | omega) _ | refine Ext.trans ?_ (by assumption)))⟩
  simp only [decide_eq_true_eq]
  constructor
  · intro h
    rcases Hr.out with ⟨h1, _⟩ | ⟨_, h2⟩
    · omega
    · exact h2
  · rintro ⟨i, h1, h2⟩
    rcases Hr.out with ⟨_, h3⟩ | ⟨h3, _⟩
    · exact absurd h2 (h3 i h1)
    · omega


set_option maxHeartbeats 400000 in
theorem indexFunc_sets (v : Value) (l : List (List Sp)) (g : Nat) (caps : Array Value) (p : Nat → Prop) (w : World) (h : Sets w 0 w.heap.size v l)
    (hg : ∀ (args : Array Value) (w : World), (callFunc g args).run Tryd.prog w = .ok (.enter g args) w)
    (hf : ∀ (i : Nat) (w' : World) (u : Value), Spans w' 0 w.heap.size u (setAt l i) → i < l.length → Ext w w' → Calls Tryd.prog g (#[u] ++ caps) w' (RetX (.bool (B (p i))) w')) :
    Calls Tryd.prog 96 #[v, .func (.func g) #[] caps] w (RetIdx l.length p w) := by
  obtain ⟨A, c, rfl, hn, hc⟩ := h.len
  have H := Lib.hid h
  have Hf := Lib.hid hf
  clear h hf
  go_enter Tryd.func96, Tryd.ntmps96
  go_wp2_with fail
  go_loopg [8] l.length (fun k i wr => ∃ j : Nat, j + k = l.length ∧ i = .int .i64 j ∧ Ext w wr ∧ ∀ i, i < j → ¬ p i)
  case atStart => exact ⟨0, by omega, rfl, Ext.refl _, fun i hi => absurd hi (by omega)⟩
  case round =>
    obtain ⟨j, hj, rfl, hx, hok⟩ := hrel
    have Hok := Lib.hid hok
    clear hok
    by_cases hlt : j < l.length
    · obtain ⟨b, off, u, rfl, _, hb, h1, h2⟩ := (H.out.ext hx (Nat.le_refl _)).at_ hlt
      go_wp2_with fail
      refine (Hf.out j wr u h2 hlt hx).mono ?_
      rintro e w1 ⟨rfl, hx1⟩
      go_wp2_with fail
      · go_ret
        exact ⟨j, rfl, (by repeat (first | exact Ext.refl _ | assumption | refine Ext.alloc ?_ _ | refine Ext.drew ?_ | refine Ext.drewN ?_ _ | refine Ext.setCell ?_ (by first | (simp; done) | (simp; omega) | omega) _ | refine Ext.trans ?_ (by assumption))), .inr ⟨by omega, j, hlt, B_iff.1 (by assumption)⟩⟩
      · go_roundg (l.length - (j + 1))
        case measure => omega
        case rel =>
          refine ⟨j + 1, by omega, by go_num, (by repeat (first | exact Ext.refl _ | assumption | refine Ext.alloc ?_ _ | refine Ext.drew ?_ | refine Ext.drewN ?_ _ | refine Ext.setCell ?_ (by first | (simp; done) | (simp; omega) | omega) _ | refine Ext.trans ?_ (by assumption))), fun i hi => ?_⟩
          by_cases e : i = j
          · rw [e]
            exact B_not.1 (by first | assumption | (simp only [← Bool.not_eq_true]; assumption))
          · exact Hok.out i (by omega)
    · obtain rfl : j = l.length := by omega
      go_wp2_with fail
      go_ret
      exact ⟨-1, rfl, (by repeat (first | exact Ext.refl _ | assumption | refine Ext.alloc ?_ _ | refine Ext.drew ?_ | refine Ext.drewN ?_ _ | refine Ext.setCell ?_ (by first | (simp; done) | (simp; omega) | omega) _ | refine Ext.trans ?_ (by assumption))), .inl ⟨rfl, Hok.out⟩⟩

set_option maxHeartbeats 400000 in
theorem containsFunc_sets (v : Value) (l : List (List Sp)) (g : Nat) (caps : Array Value) (p : Nat → Prop) (w : World) (h : Sets w 0 w.heap.size v l)
    (hg : ∀ (args : Array Value) (w : World), (callFunc g args).run Tryd.prog w = .ok (.enter g args) w)
    (hf : ∀ (i : Nat) (w' : World) (u : Value), Spans w' 0 w.heap.size u (setAt l i) → i < l.length → Ext w w' → Calls Tryd.prog g (#[u] ++ caps) w' (RetX (.bool (B (p i))) w')) :
    Calls Tryd.prog 77 #[v, .func (.func g) #[] caps] w (RetX (.bool (B (Some_ l.length p))) w) := by
  have H := Lib.hid (indexFunc_sets v l g caps p w h hg hf)
  clear h hf hg
  go_enter Tryd.func77, Tryd.ntmps77
  go_wp2_with fail
  refine H.out.mono ?_
  rintro e w1 ⟨r, rfl, hx, hr⟩
  have Hr := Lib.hid hr
  clear hr
  go_wp2_with fail
  go_ret
  refine ⟨ret_bool (B_eq ?_), (by repeat (first | exact Ext.refl _ | assumption | refine Ext.alloc ?_ _ | refine Ext.drew ?_ | refine Ext.drewN ?_ _ | refine Ext.setCell ?_ (by first | (simp; done) | (simp; omega) | omega) _ | refine Ext.trans ?_ (by assumption)))⟩
  simp only [decide_eq_true_eq]
  constructor
  · intro h
    rcases Hr.out with ⟨h1, _⟩ | ⟨_, h2⟩
    · omega
    · exact h2
  · rintro ⟨i, h1, h2⟩
    rcases Hr.out with ⟨_, h3⟩ | ⟨h3, _⟩
    · exact absurd h2 (h3 i h1)
    · omega
end Go.Proofs.YtfmnkojjkjkdeaaDoor
