/- Texts merged (a claim holds at most sixty files): A, B, C, D. -/
import Derived.Test.YtfmnkojjkjkdeaaDoorProg
import Derived.Test.YtfmnkojjkjkdeaaDoorR1Lib
/- Contracts of the functions that only read: ranges, days, sets, links, networks. -/
namespace Go.Proofs.YtfmnkojjkjkdeaaDoor
set_option linter.unusedVariables false
set_option linter.unusedSimpArgs false
open Go.RowKit
attribute [local go_sem] cell_onto

theorem prog_mixed : Tryd.prog.follows .mixedOrders = true := by kernel_rfl

set_option maxHeartbeats 400000 in
theorem impl_within (n lo hi : Int) (w : World) : Calls Tryd.prog 34 #[.int .i64 n, .int .i64 lo, .int .i64 hi] w (RetS (.bool (B (lo ≤ n ∧ n ≤ hi))) w) := by
  go_enter Tryd.func34, Tryd.ntmps34
  go_wp2
  all_goals (go_ret; refine ⟨ret_bool (B_eq ?_), rfl⟩; simp; omega)
set_option maxHeartbeats 400000 in
theorem spec_l01In (n lo hi : Int) (w : World) : Calls Tryd.prog 26 #[.int .i64 n, .int .i64 lo, .int .i64 hi] w (RetS (.bool (B (lo ≤ n ∧ n ≤ hi))) w) := by
  go_enter Tryd.func26, Tryd.ntmps26
  go_wp2
  all_goals (go_ret; refine ⟨ret_bool (B_eq ?_), rfl⟩; simp; omega)
set_option maxHeartbeats 400000 in
theorem impl_isDay (n : Int) (w : World) : Calls Tryd.prog 69 #[.int .i64 n] w (RetS (.bool (B (DayOk n))) w) := by
  go_enter Tryd.func69, Tryd.ntmps69
  go_wp2_with (go_at_call 34; refine (impl_within _ _ _ _).mono ?_; rintro e w' ⟨rfl, rfl⟩)
  go_ret
  exact ⟨rfl, rfl⟩
set_option maxHeartbeats 400000 in
theorem spec_l01Day (n : Int) (w : World) : Calls Tryd.prog 95 #[.int .i64 n] w (RetS (.bool (B (DayOk n))) w) := by
  go_enter Tryd.func95, Tryd.ntmps95
  go_wp2_with (go_at_call 26; refine (spec_l01In _ _ _ _).mono ?_; rintro e w' ⟨rfl, rfl⟩)
  go_ret
  exact ⟨rfl, rfl⟩

set_option maxHeartbeats 400000 in
theorem spec_l02Span (a b : Int) (w : World) : Calls Tryd.prog 75 #[.agg #[.int .i64 a, .int .i64 b]] w (RetX (.bool (B (SpOk ⟨a, b⟩))) w) := by
  go_enter Tryd.func75, Tryd.ntmps75
  go_wp2_with (go_at_call 95; refine (spec_l01Day _ _).mono ?_; rintro e w' ⟨rfl, rfl⟩)
  all_goals (go_ret; refine ⟨ret_bool (B_eq ?_), (by repeat (first | exact Ext.refl _ | assumption | refine Ext.alloc ?_ _ | refine Ext.drew ?_ | refine Ext.drewN ?_ _ | refine Ext.setCell ?_ (by first | (simp; done) | (simp; omega) | omega) _ | refine Ext.trans ?_ (by assumption)))⟩; (try simp only [Bool.and_eq_true, Bool.or_eq_true, B_iff, B_not, Bool.not_eq_true, Bool.not_eq_false', Bool.not_eq_true', Bool.not_not, decide_eq_true_eq, decide_eq_false_iff_not, Bool.true_eq_false, Bool.false_eq_true, iff_true, iff_false, true_iff, false_iff, beq_iff_eq, bne_iff_ne, ne_eq] at *); (try unfold SpOk DayOk at *); (try dsimp only at *); omega)

theorem setOk_step {l : List Sp} {j : Nat} (h : ∀ i, i < j → StepOk l i) (h' : StepOk l j) : ∀ i, i < j + 1 → StepOk l i := by
  intro i hi
  by_cases e : i = j
  · subst e; exact h'
  · exact h i (by omega)

set_option maxHeartbeats 1000000 in
theorem spec_IsSet (v : Value) (l : List Sp) (w : World) (h : Spans w 0 w.heap.size v l) : Calls Tryd.prog 55 #[v] w (RetX (.bool (B (SetOk l))) w) := by
  obtain ⟨A, c, rfl, hn, hc⟩ := h.len
  have H := Lib.hid h
  clear h
  go_enter Tryd.func55, Tryd.ntmps55
  go_wp2_with fail
  go_loopg [3] l.length (fun k i wr => ∃ j : Nat, j + k = l.length ∧ i = .int .i64 j ∧ Ext w wr ∧ ∀ i, i < j → StepOk l i)
  case atStart => exact ⟨0, by omega, rfl, Ext.refl _, fun i hi => absurd hi (by omega)⟩
  case round =>
    obtain ⟨j, hj, rfl, hx, hok⟩ := hrel
    have Hok := Lib.hid hok
    clear hok
    by_cases hlt : j < l.length
    · obtain ⟨b, off, rfl, _, hb, h1, h2⟩ := (H.out.ext hx (Nat.le_refl _)).at_ hlt
      have hbr : b < wr.heap.size := Nat.lt_of_lt_of_le hb hx.size
      by_cases hs : SpOk (spAt l j)
      · have hs1 : B (SpOk (spAt l j)) = true := B_true hs
        have hd := hs.1
        have Hs := Lib.hid hs
        have Hs1 := Lib.hid hs1
        clear hs hs1
        by_cases h0 : 0 < j
        · have hb0 : decide ((0 : Int) < (j : Int)) = true := by simp; omega
          obtain ⟨b', off', e, _, _, _, h3⟩ := (H.out.ext hx (Nat.le_refl _)).at_ (i := j - 1) (by omega)
          injection e with e
          injection e with e1 e2
          subst e1 e2
          have hp := (Hok.out (j - 1) (by omega)).1.2.1
          unfold DayOk at hp hd
          obtain ⟨hp1, hp2⟩ := hp
          go_wp2_with fail
          (refine wp_region_onto prog_mixed (by kernel_rfl) ?_; (repeat (go_big_quiet_step ((go_at_call 75; exact onto_callXb Hs1.out (spec_l02Span _ _ _))))); refine onto_end ?_; intro w1 hx1)
          go_wp2_with fail
          · go_ret
            exact ⟨ret_bool (B_false (fun h => by have := ((h.2 j hlt).2 h0); omega)).symm, (by repeat (first | exact Ext.refl _ | assumption | refine Ext.alloc ?_ _ | refine Ext.drew ?_ | refine Ext.drewN ?_ _ | refine Ext.setCell ?_ (by first | (simp; done) | (simp; omega) | omega) _ | refine Ext.trans ?_ (by assumption)))⟩
          · go_roundg (l.length - (j + 1))
            case measure => omega
            case rel => exact ⟨j + 1, by omega, by go_num, (by repeat (first | exact Ext.refl _ | assumption | refine Ext.alloc ?_ _ | refine Ext.drew ?_ | refine Ext.drewN ?_ _ | refine Ext.setCell ?_ (by first | (simp; done) | (simp; omega) | omega) _ | refine Ext.trans ?_ (by assumption))), setOk_step Hok.out ⟨Hs.out, fun _ => by omega⟩⟩
        · have hb0 : decide ((0 : Int) < (j : Int)) = false := by simp; omega
          go_wp2_with fail
          (refine wp_region_onto prog_mixed (by kernel_rfl) ?_; (repeat (go_big_quiet_step ((go_at_call 75; exact onto_callXb Hs1.out (spec_l02Span _ _ _))))); refine onto_end ?_; intro w1 hx1)
          go_wp2_with fail
          go_roundg (l.length - (j + 1))
          case measure => omega
          case rel => exact ⟨j + 1, by omega, by go_num, (by repeat (first | exact Ext.refl _ | assumption | refine Ext.alloc ?_ _ | refine Ext.drew ?_ | refine Ext.drewN ?_ _ | refine Ext.setCell ?_ (by first | (simp; done) | (simp; omega) | omega) _ | refine Ext.trans ?_ (by assumption))), setOk_step Hok.out ⟨Hs.out, fun h => absurd h h0⟩⟩
      · have Hs := Lib.hid hs
        have Hs1 := Lib.hid (B_false hs)
        clear hs
        go_wp2_with fail
        (refine wp_region_onto prog_mixed (by kernel_rfl) ?_; (repeat (go_big_quiet_step ((go_at_call 75; exact onto_callXb Hs1.out (spec_l02Span _ _ _))))); refine onto_end ?_; intro w1 hx1)
        go_wp2_with fail
        go_ret
        exact ⟨ret_bool (B_false (fun h => Hs.out (h.2 j hlt).1)).symm, (by repeat (first | exact Ext.refl _ | assumption | refine Ext.alloc ?_ _ | refine Ext.drew ?_ | refine Ext.drewN ?_ _ | refine Ext.setCell ?_ (by first | (simp; done) | (simp; omega) | omega) _ | refine Ext.trans ?_ (by assumption)))⟩
    · obtain rfl : j = l.length := by omega
      go_wp2_with fail
      go_ret
      refine ⟨ret_bool (B_eq ?_), (by repeat (first | exact Ext.refl _ | assumption | refine Ext.alloc ?_ _ | refine Ext.drew ?_ | refine Ext.drewN ?_ _ | refine Ext.setCell ?_ (by first | (simp; done) | (simp; omega) | omega) _ | refine Ext.trans ?_ (by assumption)))⟩
      simp only [decide_eq_true_eq]
      exact ⟨fun h => ⟨by omega, Hok.out⟩, fun h => by have := h.1; omega⟩
end Go.Proofs.YtfmnkojjkjkdeaaDoor

/- slices.IndexFunc and ContainsFunc over spans, sets, links, numbers: by the contract of the function value. -/
namespace Go.Proofs.YtfmnkojjkjkdeaaDoor
set_option linter.unusedVariables false
set_option linter.unusedSimpArgs false
open Go.RowKit
attribute [local go_sem] cell_onto

/-- what IndexFunc returns: the first index of which p holds, or -1 -/
def RetIdx (n : Nat) (p : Nat → Prop) (w : World) (e : Ending) (w' : World) : Prop :=
  ∃ r : Int, e = .returned (.int .i64 r) ∧ Ext w w' ∧ ((r = -1 ∧ ∀ i, i < n → ¬ p i) ∨ (0 ≤ r ∧ ∃ i, i < n ∧ p i))
/-- what ContainsFunc asks -/
def Some_ (n : Nat) (p : Nat → Prop) : Prop := ∃ i, i < n ∧ p i


set_option maxHeartbeats 400000 in
theorem indexFunc_links (v : Value) (l : List Lk) (g : Nat) (caps : Array Value) (p : Nat → Prop) (w : World) (h : Links w 0 w.heap.size v l)
    (hg : ∀ (args : Array Value) (w : World), (callFunc g args).run Tryd.prog w = .ok (.enter g args) w)
    (hf : ∀ (i : Nat) (w' : World), i < l.length → Ext w w' → Calls Tryd.prog g (#[.agg #[.int .i64 (lkAt l i).be, .int .i64 (lkAt l i).af, .int .i64 (lkAt l i).le, .int .i64 (lkAt l i).mo]] ++ caps) w' (RetX (.bool (B (p i))) w')) :
    Calls Tryd.prog 80 #[v, .func (.func g) #[] caps] w (RetIdx l.length p w) := by
  obtain ⟨A, c, rfl, hn, hc⟩ := h.len
  have H := Lib.hid h
  have Hf := Lib.hid hf
  clear h hf
  go_enter Tryd.func80, Tryd.ntmps80
  go_wp2_with fail
  go_loopg [8] l.length (fun k i wr => ∃ j : Nat, j + k = l.length ∧ i = .int .i64 j ∧ Ext w wr ∧ ∀ i, i < j → ¬ p i)
  case atStart => exact ⟨0, by omega, rfl, Ext.refl _, fun i hi => absurd hi (by omega)⟩
  case round =>
    obtain ⟨j, hj, rfl, hx, hok⟩ := hrel
    have Hok := Lib.hid hok
    clear hok
    by_cases hlt : j < l.length
    · obtain ⟨b, off, rfl, _, hb, h1, h2, h3, h4⟩ := (H.out.ext hx (Nat.le_refl _)).at_ hlt
      go_wp2_with fail
      refine (Hf.out j wr hlt hx).mono ?_
      rintro e w1 ⟨rfl, hx1⟩
      go_wp2_with fail
      · go_ret
        exact ⟨j, rfl, (by repeat (first | exact Ext.refl _ | assumption | refine Ext.alloc ?_ _ | refine Ext.drew ?_ | refine Ext.drewN ?_ _ | refine Ext.setCell ?_ (by first | (simp; done) | (simp; omega) | omega) _ | refine Ext.trans ?_ (by assumption))), .inr ⟨by omega, j, hlt, B_iff.1 (by assumption)⟩⟩
      · go_roundg (l.length - (j + 1))
        case measure => omega
        case rel =>
          refine ⟨j + 1, by omega, by go_num, (by repeat (first | exact Ext.refl _ | assumption | refine Ext.alloc ?_ _ | refine Ext.drew ?_ | refine Ext.drewN ?_ _ | refine Ext.setCell ?_ (by first | (simp; done) | (simp; omega) | omega) _ | refine Ext.trans ?_ (by assumption))), fun i hi => ?_⟩
          by_cases e : i = j
          · rw [e]
            exact B_not.1 (by first | assumption | (simp only [← Bool.not_eq_true]; assumption))
          · exact Hok.out i (by omega)
    · obtain rfl : j = l.length := by omega
      go_wp2_with fail
      go_ret
      exact ⟨-1, rfl, (by repeat (first | exact Ext.refl _ | assumption | refine Ext.alloc ?_ _ | refine Ext.drew ?_ | refine Ext.drewN ?_ _ | refine Ext.setCell ?_ (by first | (simp; done) | (simp; omega) | omega) _ | refine Ext.trans ?_ (by assumption))), .inl ⟨rfl, Hok.out⟩⟩

set_option maxHeartbeats 400000 in
theorem containsFunc_links (v : Value) (l : List Lk) (g : Nat) (caps : Array Value) (p : Nat → Prop) (w : World) (h : Links w 0 w.heap.size v l)
    (hg : ∀ (args : Array Value) (w : World), (callFunc g args).run Tryd.prog w = .ok (.enter g args) w)
    (hf : ∀ (i : Nat) (w' : World), i < l.length → Ext w w' → Calls Tryd.prog g (#[.agg #[.int .i64 (lkAt l i).be, .int .i64 (lkAt l i).af, .int .i64 (lkAt l i).le, .int .i64 (lkAt l i).mo]] ++ caps) w' (RetX (.bool (B (p i))) w')) :
    Calls Tryd.prog 60 #[v, .func (.func g) #[] caps] w (RetX (.bool (B (Some_ l.length p))) w) := by
  have H := Lib.hid (indexFunc_links v l g caps p w h hg hf)
  clear h hf hg
  go_enter Tryd.func60, Tryd.ntmps60
  go_wp2_with fail
  refine H.out.mono ?_
  rintro e w1 ⟨r, rfl, hx, hr⟩
  have Hr := Lib.hid hr
  clear hr
  go_wp2_with fail
  go_ret
  refine ⟨ret_bool (B_eq ?_), (by repeat (first | exact Ext.refl _ | assumption | refine Ext.alloc ?_ _ | refine Ext.drew ?_ | refine Ext.drewN ?_ _ | refine Ext.setCell ?_ (by first | (simp; done) | (simp; omega) | omega) _ | refine Ext.trans ?_ (by assumption)))⟩
  simp only [decide_eq_true_eq]
  constructor
  · intro h
    rcases Hr.out with ⟨h1, _⟩ | ⟨_, h2⟩
    · omega
    · exact h2
  · rintro ⟨i, h1, h2⟩
    rcases Hr.out with ⟨_, h3⟩ | ⟨h3, _⟩
    · exact absurd h2 (h3 i h1)
    · omega


set_option maxHeartbeats 400000 in
theorem indexFunc_sets (v : Value) (l : List (List Sp)) (g : Nat) (caps : Array Value) (p : Nat → Prop) (w : World) (h : Sets w 0 w.heap.size v l)
    (hg : ∀ (args : Array Value) (w : World), (callFunc g args).run Tryd.prog w = .ok (.enter g args) w)
    (hf : ∀ (i : Nat) (w' : World) (u : Value), Spans w' 0 w.heap.size u (setAt l i) → i < l.length → Ext w w' → Calls Tryd.prog g (#[u] ++ caps) w' (RetX (.bool (B (p i))) w')) :
    Calls Tryd.prog 96 #[v, .func (.func g) #[] caps] w (RetIdx l.length p w) := by
  obtain ⟨A, c, rfl, hn, hc⟩ := h.len
  have H := Lib.hid h
  have Hf := Lib.hid hf
  clear h hf
  go_enter Tryd.func96, Tryd.ntmps96
  go_wp2_with fail
  go_loopg [8] l.length (fun k i wr => ∃ j : Nat, j + k = l.length ∧ i = .int .i64 j ∧ Ext w wr ∧ ∀ i, i < j → ¬ p i)
  case atStart => exact ⟨0, by omega, rfl, Ext.refl _, fun i hi => absurd hi (by omega)⟩
  case round =>
    obtain ⟨j, hj, rfl, hx, hok⟩ := hrel
    have Hok := Lib.hid hok
    clear hok
    by_cases hlt : j < l.length
    · obtain ⟨b, off, u, rfl, _, hb, h1, h2⟩ := (H.out.ext hx (Nat.le_refl _)).at_ hlt
      go_wp2_with fail
      refine (Hf.out j wr u h2 hlt hx).mono ?_
      rintro e w1 ⟨rfl, hx1⟩
      go_wp2_with fail
      · go_ret
        exact ⟨j, rfl, (by repeat (first | exact Ext.refl _ | assumption | refine Ext.alloc ?_ _ | refine Ext.drew ?_ | refine Ext.drewN ?_ _ | refine Ext.setCell ?_ (by first | (simp; done) | (simp; omega) | omega) _ | refine Ext.trans ?_ (by assumption))), .inr ⟨by omega, j, hlt, B_iff.1 (by assumption)⟩⟩
      · go_roundg (l.length - (j + 1))
        case measure => omega
        case rel =>
          refine ⟨j + 1, by omega, by go_num, (by repeat (first | exact Ext.refl _ | assumption | refine Ext.alloc ?_ _ | refine Ext.drew ?_ | refine Ext.drewN ?_ _ | refine Ext.setCell ?_ (by first | (simp; done) | (simp; omega) | omega) _ | refine Ext.trans ?_ (by assumption))), fun i hi => ?_⟩
          by_cases e : i = j
          · rw [e]
            exact B_not.1 (by first | assumption | (simp only [← Bool.not_eq_true]; assumption))
          · exact Hok.out i (by omega)
    · obtain rfl : j = l.length := by omega
      go_wp2_with fail
      go_ret
      exact ⟨-1, rfl, (by repeat (first | exact Ext.refl _ | assumption | refine Ext.alloc ?_ _ | refine Ext.drew ?_ | refine Ext.drewN ?_ _ | refine Ext.setCell ?_ (by first | (simp; done) | (simp; omega) | omega) _ | refine Ext.trans ?_ (by assumption))), .inl ⟨rfl, Hok.out⟩⟩

set_option maxHeartbeats 400000 in
theorem containsFunc_sets (v : Value) (l : List (List Sp)) (g : Nat) (caps : Array Value) (p : Nat → Prop) (w : World) (h : Sets w 0 w.heap.size v l)
    (hg : ∀ (args : Array Value) (w : World), (callFunc g args).run Tryd.prog w = .ok (.enter g args) w)
    (hf : ∀ (i : Nat) (w' : World) (u : Value), Spans w' 0 w.heap.size u (setAt l i) → i < l.length → Ext w w' → Calls Tryd.prog g (#[u] ++ caps) w' (RetX (.bool (B (p i))) w')) :
    Calls Tryd.prog 77 #[v, .func (.func g) #[] caps] w (RetX (.bool (B (Some_ l.length p))) w) := by
  have H := Lib.hid (indexFunc_sets v l g caps p w h hg hf)
  clear h hf hg
  go_enter Tryd.func77, Tryd.ntmps77
  go_wp2_with fail
  refine H.out.mono ?_
  rintro e w1 ⟨r, rfl, hx, hr⟩
  have Hr := Lib.hid hr
  clear hr
  go_wp2_with fail
  go_ret
  refine ⟨ret_bool (B_eq ?_), (by repeat (first | exact Ext.refl _ | assumption | refine Ext.alloc ?_ _ | refine Ext.drew ?_ | refine Ext.drewN ?_ _ | refine Ext.setCell ?_ (by first | (simp; done) | (simp; omega) | omega) _ | refine Ext.trans ?_ (by assumption)))⟩
  simp only [decide_eq_true_eq]
  constructor
  · intro h
    rcases Hr.out with ⟨h1, _⟩ | ⟨_, h2⟩
    · omega
    · exact h2
  · rintro ⟨i, h1, h2⟩
    rcases Hr.out with ⟨_, h3⟩ | ⟨h3, _⟩
    · exact absurd h2 (h3 i h1)
    · omega
end Go.Proofs.YtfmnkojjkjkdeaaDoor

/- The program's IsSet and IsNetwork; the reference's IsNetwork. -/
namespace Go.Proofs.YtfmnkojjkjkdeaaDoor
set_option linter.unusedVariables false
set_option linter.unusedSimpArgs false
open Go.RowKit
attribute [local go_sem] cell_onto

theorem impl_isDay_b {n : Int} {b : Bool} (hb : B (DayOk n) = b) (w : World) : Calls Tryd.prog 69 #[.int .i64 n] w (RetS (.bool b) w) := by
  subst hb; exact impl_isDay n w

set_option maxHeartbeats 1000000 in
theorem impl_IsSet (v : Value) (l : List Sp) (w : World) (h : Spans w 0 w.heap.size v l) : Calls Tryd.prog 79 #[v] w (RetX (.bool (B (SetOk l))) w) := by
  obtain ⟨A, c, rfl, hn, hc⟩ := h.len
  have H := Lib.hid h
  clear h
  go_enter Tryd.func79, Tryd.ntmps79
  go_wp2_with fail
  go_loopg [7] l.length (fun k i wr => ∃ j : Nat, j + k = l.length ∧ i = .int .i64 j ∧ Ext w wr ∧ ∀ i, i < j → StepOk l i)
  case atStart => exact ⟨0, by omega, rfl, Ext.refl _, fun i hi => absurd hi (by omega)⟩
  case round =>
    obtain ⟨j, hj, rfl, hx, hok⟩ := hrel
    have Hok := Lib.hid hok
    clear hok
    by_cases hlt : j < l.length
    · obtain ⟨b, off, rfl, _, hb, h1, h2⟩ := (H.out.ext hx (Nat.le_refl _)).at_ hlt
      have hbr : b < wr.heap.size := Nat.lt_of_lt_of_le hb hx.size
      have hbr1 : b < wr.heap.size + 1 := by omega
      by_cases hs1 : DayOk (spAt l j).fr
      · have Hs1 := Lib.hid (B_true hs1)
        by_cases hs2 : DayOk (spAt l j).to
        · have Hs2 := Lib.hid (B_true hs2)
          by_cases hs3 : (spAt l j).fr ≤ (spAt l j).to
          · have Hs := Lib.hid (show SpOk (spAt l j) from ⟨hs1, hs2, hs3⟩)
            unfold DayOk at hs1 hs2
            have hs3b : decide ((spAt l j).to < (spAt l j).fr) = false := by simp; omega
            obtain ⟨hs11, hs12⟩ := hs1
            obtain ⟨hs21, hs22⟩ := hs2
            by_cases h0 : 0 < j
            · have hb0 : decide ((0 : Int) < (j : Int)) = true := by simp; omega
              obtain ⟨b', off', e, _, _, _, h3⟩ := (H.out.ext hx (Nat.le_refl _)).at_ (i := j - 1) (by omega)
              injection e with e
              injection e with e1 e2
              subst e1 e2
              have hp := (Hok.out (j - 1) (by omega)).1.2.1
              unfold DayOk at hp
              obtain ⟨hp1, hp2⟩ := hp
              go_wp2_with fail
              (refine wp_region_onto prog_mixed (by kernel_rfl) ?_; (repeat (go_big_quiet_step ((go_at_call 69; first | with_reducible exact onto_callS (impl_isDay_b Hs1.out _) | with_reducible exact onto_callS (impl_isDay_b Hs2.out _))))); refine onto_end ?_; intro w1 hx1)
              go_wp2_with fail
              · go_ret
                exact ⟨ret_bool (B_false (fun h => by have := ((h.2 j hlt).2 h0); omega)).symm, (by repeat (first | exact Ext.refl _ | assumption | refine Ext.alloc ?_ _ | refine Ext.drew ?_ | refine Ext.drewN ?_ _ | refine Ext.setCell ?_ (by first | (simp; done) | (simp; omega) | omega) _ | refine Ext.trans ?_ (by assumption)))⟩
              · go_roundg (l.length - (j + 1))
                case measure => omega
                case rel => exact ⟨j + 1, by omega, by go_num, (by repeat (first | exact Ext.refl _ | assumption | refine Ext.alloc ?_ _ | refine Ext.drew ?_ | refine Ext.drewN ?_ _ | refine Ext.setCell ?_ (by first | (simp; done) | (simp; omega) | omega) _ | refine Ext.trans ?_ (by assumption))), setOk_step Hok.out ⟨Hs.out, fun _ => by omega⟩⟩
            · have hb0 : decide ((0 : Int) < (j : Int)) = false := by simp; omega
              go_wp2_with fail
              (refine wp_region_onto prog_mixed (by kernel_rfl) ?_; (repeat (go_big_quiet_step ((go_at_call 69; first | with_reducible exact onto_callS (impl_isDay_b Hs1.out _) | with_reducible exact onto_callS (impl_isDay_b Hs2.out _))))); refine onto_end ?_; intro w1 hx1)
              go_wp2_with fail
              go_roundg (l.length - (j + 1))
              case measure => omega
              case rel => exact ⟨j + 1, by omega, by go_num, (by repeat (first | exact Ext.refl _ | assumption | refine Ext.alloc ?_ _ | refine Ext.drew ?_ | refine Ext.drewN ?_ _ | refine Ext.setCell ?_ (by first | (simp; done) | (simp; omega) | omega) _ | refine Ext.trans ?_ (by assumption))), setOk_step Hok.out ⟨Hs.out, fun h => absurd h h0⟩⟩
          · have hs3b : decide ((spAt l j).to < (spAt l j).fr) = true := by simp; omega
            have hn3 := Lib.hid hs3
            clear hs1 hs2 hs3
            go_wp2_with fail
            (refine wp_region_onto prog_mixed (by kernel_rfl) ?_; (repeat (go_big_quiet_step ((go_at_call 69; first | with_reducible exact onto_callS (impl_isDay_b Hs1.out _) | with_reducible exact onto_callS (impl_isDay_b Hs2.out _))))); refine onto_end ?_; intro w1 hx1)
            go_wp2_with fail
            go_ret
            exact ⟨ret_bool (B_false (fun h => by have h3 := (h.2 j hlt).1.2.2; have := hn3.out; omega)).symm, (by repeat (first | exact Ext.refl _ | assumption | refine Ext.alloc ?_ _ | refine Ext.drew ?_ | refine Ext.drewN ?_ _ | refine Ext.setCell ?_ (by first | (simp; done) | (simp; omega) | omega) _ | refine Ext.trans ?_ (by assumption)))⟩
        · have Hs2 := Lib.hid (B_false hs2)
          have hn3 := Lib.hid hs2
          clear hs1 hs2
          go_wp2_with fail
          (refine wp_region_onto prog_mixed (by kernel_rfl) ?_; (repeat (go_big_quiet_step ((go_at_call 69; first | with_reducible exact onto_callS (impl_isDay_b Hs1.out _) | with_reducible exact onto_callS (impl_isDay_b Hs2.out _))))); refine onto_end ?_; intro w1 hx1)
          go_wp2_with fail
          go_ret
          exact ⟨ret_bool (B_false (fun h => hn3.out (h.2 j hlt).1.2.1)).symm, (by repeat (first | exact Ext.refl _ | assumption | refine Ext.alloc ?_ _ | refine Ext.drew ?_ | refine Ext.drewN ?_ _ | refine Ext.setCell ?_ (by first | (simp; done) | (simp; omega) | omega) _ | refine Ext.trans ?_ (by assumption)))⟩
      · have Hs1 := Lib.hid (B_false hs1)
        have Hs2 := Hs1
        have hn3 := Lib.hid hs1
        clear hs1
        go_wp2_with fail
        (refine wp_region_onto prog_mixed (by kernel_rfl) ?_; (repeat (go_big_quiet_step ((go_at_call 69; first | with_reducible exact onto_callS (impl_isDay_b Hs1.out _) | with_reducible exact onto_callS (impl_isDay_b Hs2.out _))))); refine onto_end ?_; intro w1 hx1)
        go_wp2_with fail
        go_ret
        exact ⟨ret_bool (B_false (fun h => hn3.out (h.2 j hlt).1.1)).symm, (by repeat (first | exact Ext.refl _ | assumption | refine Ext.alloc ?_ _ | refine Ext.drew ?_ | refine Ext.drewN ?_ _ | refine Ext.setCell ?_ (by first | (simp; done) | (simp; omega) | omega) _ | refine Ext.trans ?_ (by assumption)))⟩
    · obtain rfl : j = l.length := by omega
      go_wp2_with fail
      go_ret
      refine ⟨ret_bool (B_eq ?_), (by repeat (first | exact Ext.refl _ | assumption | refine Ext.alloc ?_ _ | refine Ext.drew ?_ | refine Ext.drewN ?_ _ | refine Ext.setCell ?_ (by first | (simp; done) | (simp; omega) | omega) _ | refine Ext.trans ?_ (by assumption)))⟩
      simp only [decide_eq_true_eq]
      exact ⟨fun h => ⟨by omega, Hok.out⟩, fun h => by have := h.1; omega⟩

set_option maxHeartbeats 1000000 in
theorem impl_isLink (a b c d : Int) (n : Nat) (w : World) (hn : n ≤ 9223372036854775807) :
    Calls Tryd.prog 62 #[.agg #[.int .i64 a, .int .i64 b, .int .i64 c, .int .i64 d], .int .i64 n] w (RetX (.bool (B (LkOk ⟨a, b, c, d⟩ n))) w) := by
  go_enter Tryd.func62, Tryd.ntmps62
  go_wp2_with (go_at_call 34; refine (impl_within _ _ _ _).mono ?_; rintro e w' ⟨rfl, rfl⟩)
  all_goals (go_ret; refine ⟨ret_bool (B_eq ?_), (by repeat (first | exact Ext.refl _ | assumption | refine Ext.alloc ?_ _ | refine Ext.drew ?_ | refine Ext.drewN ?_ _ | refine Ext.setCell ?_ (by first | (simp; done) | (simp; omega) | omega) _ | refine Ext.trans ?_ (by assumption)))⟩; (try simp only [Bool.and_eq_true, Bool.or_eq_true, B_iff, B_not, Bool.not_eq_true, Bool.not_eq_false', Bool.not_eq_true', Bool.not_not, decide_eq_true_eq, decide_eq_false_iff_not, Bool.true_eq_false, Bool.false_eq_true, iff_true, iff_false, true_iff, false_iff, beq_iff_eq, bne_iff_ne, ne_eq] at *); (try unfold LkOk at *); (try dsimp only at *); omega)
set_option maxHeartbeats 1000000 in
theorem spec_l18Link (a b c d : Int) (n : Nat) (w : World) (hn : n ≤ 9223372036854775807) :
    Calls Tryd.prog 56 #[.agg #[.int .i64 a, .int .i64 b, .int .i64 c, .int .i64 d], .int .i64 n] w (RetX (.bool (B (LkOk ⟨a, b, c, d⟩ n))) w) := by
  go_enter Tryd.func56, Tryd.ntmps56
  go_wp2_with (go_at_call 26; refine (spec_l01In _ _ _ _).mono ?_; rintro e w' ⟨rfl, rfl⟩)
  all_goals (go_ret; refine ⟨ret_bool (B_eq ?_), (by repeat (first | exact Ext.refl _ | assumption | refine Ext.alloc ?_ _ | refine Ext.drew ?_ | refine Ext.drewN ?_ _ | refine Ext.setCell ?_ (by first | (simp; done) | (simp; omega) | omega) _ | refine Ext.trans ?_ (by assumption)))⟩; (try simp only [Bool.and_eq_true, Bool.or_eq_true, B_iff, B_not, Bool.not_eq_true, Bool.not_eq_false', Bool.not_eq_true', Bool.not_not, decide_eq_true_eq, decide_eq_false_iff_not, Bool.true_eq_false, Bool.false_eq_true, iff_true, iff_false, true_iff, false_iff, beq_iff_eq, bne_iff_ne, ne_eq] at *); (try unfold LkOk at *); (try dsimp only at *); omega)

set_option maxHeartbeats 400000 in
theorem impl_areSets_1 (v : Value) (l : List Sp) (w : World) (h : Spans w 0 w.heap.size v l) : Calls Tryd.prog 78 #[v] w (RetX (.bool (B (¬ SetOk l))) w) := by
  have H := Lib.hid h
  clear h
  go_enter Tryd.func78, Tryd.ntmps78
  go_wp2_with (go_at_call 79; refine (impl_IsSet v l w H.out).mono ?_; rintro e w1 ⟨rfl, hx1⟩)
  (go_ret; exact ⟨ret_bool (B_eq (by simp [B_not])), (by repeat (first | exact Ext.refl _ | assumption | refine Ext.alloc ?_ _ | refine Ext.drew ?_ | refine Ext.drewN ?_ _ | refine Ext.setCell ?_ (by first | (simp; done) | (simp; omega) | omega) _ | refine Ext.trans ?_ (by assumption)))⟩)

def SetsOk (l : List (List Sp)) : Prop := ∀ i, i < l.length → SetOk (setAt l i)
theorem sets_iff {l : List (List Sp)} : ¬ Some_ l.length (fun i => ¬ SetOk (setAt l i)) ↔ SetsOk l := by
  unfold Some_ SetsOk
  constructor
  · intro h i hi
    exact Classical.byContradiction fun hn => h ⟨i, hi, hn⟩
  · rintro h ⟨i, hi, hn⟩
    exact hn (h i hi)

set_option maxHeartbeats 400000 in
theorem impl_areSets (v : Value) (l : List (List Sp)) (w : World) (h : Sets w 0 w.heap.size v l) : Calls Tryd.prog 59 #[v] w (RetX (.bool (B (SetsOk l))) w) := by
  have H := Lib.hid (containsFunc_sets v l 78 #[] (fun i => ¬ SetOk (setAt l i)) w h Tryd.call78 (fun i w' u hu _ hx => impl_areSets_1 u (setAt l i) w' (hu.mono (Nat.le_refl _) hx.size)))
  clear h
  go_enter Tryd.func59, Tryd.ntmps59
  go_wp2_with (go_at_call 77; refine H.out.mono ?_; rintro e w1 ⟨rfl, hx1⟩)
  (go_ret; refine ⟨ret_bool (B_eq ?_), (by repeat (first | exact Ext.refl _ | assumption | refine Ext.alloc ?_ _ | refine Ext.drew ?_ | refine Ext.drewN ?_ _ | refine Ext.setCell ?_ (by first | (simp; done) | (simp; omega) | omega) _ | refine Ext.trans ?_ (by assumption)))⟩; (try simp only [Bool.and_eq_true, Bool.or_eq_true, B_iff, B_not, Bool.not_eq_true, Bool.not_eq_false', Bool.not_eq_true', Bool.not_not, decide_eq_true_eq, decide_eq_false_iff_not, Bool.true_eq_false, Bool.false_eq_true, iff_true, iff_false, true_iff, false_iff, beq_iff_eq, bne_iff_ne, ne_eq] at *); (try dsimp only at *); exact sets_iff)
end Go.Proofs.YtfmnkojjkjkdeaaDoor

/- IsNetwork, the program's and the reference's. -/
namespace Go.Proofs.YtfmnkojjkjkdeaaDoor
set_option linter.unusedVariables false
set_option linter.unusedSimpArgs false
open Go.RowKit
attribute [local go_sem] cell_onto

theorem netOk_step {P : Nat → Prop} {j : Nat} (h : ∀ i, i < j → P i) (h' : P j) : ∀ i, i < j + 1 → P i := by
  intro i hi
  by_cases e : i = j
  · rw [e]; exact h'
  · exact h i (by omega)

def LinksOk (l : List Lk) (n : Nat) : Prop := ∀ i, i < l.length → LkOk (lkAt l i) n
theorem links_iff {l : List Lk} {n : Nat} : ¬ Some_ l.length (fun i => ¬ LkOk (lkAt l i) n) ↔ LinksOk l n := by
  unfold Some_ LinksOk
  constructor
  · intro h i hi
    exact Classical.byContradiction fun hn => h ⟨i, hi, hn⟩
  · rintro h ⟨i, hi, hn⟩
    exact hn (h i hi)

set_option maxHeartbeats 400000 in
theorem impl_IsNetwork_1 (a b c d : Int) (g : Nat) (A : Option Addr) (n cap : Nat) (w : World) (hn : n ≤ 9223372036854775807) (h : w.cell? ⟨g, 0, none⟩ = some (.slice A n cap)) (hg : g < w.heap.size) :
    Calls Tryd.prog 61 #[.agg #[.int .i64 a, .int .i64 b, .int .i64 c, .int .i64 d], .pointer (some ⟨g, 0, none⟩)] w (RetX (.bool (B (¬ LkOk ⟨a, b, c, d⟩ n))) w) := by
  go_enter Tryd.func61, Tryd.ntmps61
  go_wp2_with (go_at_call 62; refine (impl_isLink _ _ _ _ _ _ hn).mono ?_; rintro e w1 ⟨rfl, hx1⟩)
  (go_ret; exact ⟨ret_bool (B_eq (by simp [B_not])), (by repeat (first | exact Ext.refl _ | assumption | refine Ext.alloc ?_ _ | refine Ext.drew ?_ | refine Ext.drewN ?_ _ | refine Ext.setCell ?_ (by first | (simp; done) | (simp; omega) | omega) _ | refine Ext.trans ?_ (by assumption)))⟩)

set_option maxHeartbeats 1000000 in
theorem impl_IsNetwork (s k : Value) (n : Net) (w : World) (h : NetIn w s k n) :
    Calls Tryd.prog 33 #[.agg #[s, k]] w (RetX (.bool (B (NetOk n))) w) := by
  obtain ⟨hs, hk⟩ := h
  obtain ⟨A, c, rfl, hn, hc⟩ := hs.len
  obtain ⟨A', c', rfl, hn', hc'⟩ := hk.len
  have Hs := Lib.hid hs
  have Hk := Lib.hid hk
  clear hs hk
  by_cases h1 : n.sets.length ≤ 8
  · by_cases h2 : n.links.length ≤ 20
    · go_enter Tryd.func33, Tryd.ntmps33
      go_wp2_with fail
      refine (impl_areSets _ n.sets _ ((Hs.out.ext ((Ext.refl w).alloc _) (Nat.le_refl _)).mono (Nat.le_refl _) (by simp))).mono ?_
      rintro e w1 ⟨rfl, hx1⟩
      have hb := ((Boxed.new w [.slice A n.sets.length c, .slice A' n.links.length c'] 32).ext hx1)
      have hb0 := hb.at0
      have hb1 := hb.at1
      have hbg := hb.1
      have hx : Ext w w1 := ((Ext.refl w).alloc _).trans hx1
      have Hk1 := Lib.hid (Hk.out.ext hx (Nat.le_refl _))
      have Hb := Lib.hid hb
      clear hb
      by_cases h3 : SetsOk n.sets
      · have H3 := Lib.hid h3
        have H3b := Lib.hid (B_true h3)
        clear h3
        rw [H3b.out]
        go_wp2_with fail
        refine (containsFunc_links _ n.links 61 #[.pointer (some ⟨w.heap.size, 0, none⟩)] (fun i => ¬ LkOk (lkAt n.links i) n.sets.length) w1 (Hk1.out.mono (Nat.le_refl _) hx.size) Tryd.call61
          (fun i w' _ hxx => impl_IsNetwork_1 _ _ _ _ _ A n.sets.length c w' hn ((Hb.out.ext hxx).at0) (Hb.out.ext hxx).1)).mono ?_
        rintro e w2 ⟨rfl, hx2⟩
        go_wp2_with fail
        go_ret
        refine ⟨ret_bool (B_eq ?_), (by repeat (first | exact Ext.refl _ | assumption | refine Ext.alloc ?_ _ | refine Ext.drew ?_ | refine Ext.drewN ?_ _ | refine Ext.setCell ?_ (by first | (simp; done) | (simp; omega) | omega) _ | refine Ext.trans ?_ (by assumption)))⟩
        rw [Bool.not_eq_true', B_not, links_iff]
        exact ⟨fun h => ⟨h1, h2, H3.out, h⟩, fun h => h.2.2.2⟩
      · have H3 := Lib.hid h3
        have H3b := Lib.hid (B_false h3)
        clear h3
        rw [H3b.out]
        go_wp2_with fail
        go_ret
        exact ⟨ret_bool (B_false (fun h => H3.out h.2.2.1)).symm, (by repeat (first | exact Ext.refl _ | assumption | refine Ext.alloc ?_ _ | refine Ext.drew ?_ | refine Ext.drewN ?_ _ | refine Ext.setCell ?_ (by first | (simp; done) | (simp; omega) | omega) _ | refine Ext.trans ?_ (by assumption)))⟩
    · go_enter Tryd.func33, Tryd.ntmps33
      go_wp2_with fail
      go_ret
      exact ⟨ret_bool (B_false (fun h => by have := h.2.1; omega)).symm, (by repeat (first | exact Ext.refl _ | assumption | refine Ext.alloc ?_ _ | refine Ext.drew ?_ | refine Ext.drewN ?_ _ | refine Ext.setCell ?_ (by first | (simp; done) | (simp; omega) | omega) _ | refine Ext.trans ?_ (by assumption)))⟩
  · go_enter Tryd.func33, Tryd.ntmps33
    go_wp2_with fail
    go_ret
    exact ⟨ret_bool (B_false (fun h => by have := h.1; omega)).symm, (by repeat (first | exact Ext.refl _ | assumption | refine Ext.alloc ?_ _ | refine Ext.drew ?_ | refine Ext.drewN ?_ _ | refine Ext.setCell ?_ (by first | (simp; done) | (simp; omega) | omega) _ | refine Ext.trans ?_ (by assumption)))⟩

set_option maxHeartbeats 1000000 in
theorem spec_IsNetwork (s k : Value) (n : Net) (w : World) (h : NetIn w s k n) :
    Calls Tryd.prog 25 #[.agg #[s, k]] w (RetX (.bool (B (NetOk n))) w) := by
  obtain ⟨hs, hk⟩ := h
  obtain ⟨A, c, rfl, hn, hc⟩ := hs.len
  obtain ⟨A', c', rfl, hn', hc'⟩ := hk.len
  have Hs := Lib.hid hs
  have Hk := Lib.hid hk
  clear hs hk
  go_enter Tryd.func25, Tryd.ntmps25
  go_wp2_with fail
  go_loopg [3] n.sets.length (fun m i wr => ∃ j : Nat, j + m = n.sets.length ∧ i = .int .i64 j ∧ Ext w wr ∧ Boxed wr w.heap.size [.slice A n.sets.length c, .slice A' n.links.length c'] ∧ ∀ i, i < j → SetOk (setAt n.sets i))
  case atStart => exact ⟨0, by omega, rfl, (by repeat (first | exact Ext.refl _ | assumption | refine Ext.alloc ?_ _ | refine Ext.drew ?_ | refine Ext.drewN ?_ _ | refine Ext.setCell ?_ (by first | (simp; done) | (simp; omega) | omega) _ | refine Ext.trans ?_ (by assumption))), Boxed.new w _ _, fun i hi => absurd hi (by omega)⟩
  case round =>
    obtain ⟨j, hj, rfl, hx, hb, hok⟩ := hrel
    have hb0 := hb.at0
    have hb1 := hb.at1
    have hbg := hb.1
    have Hb := Lib.hid hb
    have Hok := Lib.hid hok
    clear hok hb
    by_cases hlt : j < n.sets.length
    · obtain ⟨b, off, u, rfl, _, hbb, hu, hus⟩ := (Hs.out.ext hx (Nat.le_refl _)).at_ hlt
      have Hus := Lib.hid (hus.mono (Nat.le_refl 0) hx.size)
      clear hus
      by_cases h1 : SetOk (setAt n.sets j)
      · have H1 := Lib.hid h1
        have H1b := Lib.hid (B_true h1)
        clear h1
        go_wp2_with fail
        refine (spec_IsSet u _ wr Hus.out).mono ?_
        rintro e w1 ⟨rfl, hx1⟩
        rw [H1b.out]
        go_wp2_with fail
        go_roundg (n.sets.length - (j + 1))
        case measure => omega
        case rel => exact ⟨j + 1, by omega, by go_num, (by repeat (first | exact Ext.refl _ | assumption | refine Ext.alloc ?_ _ | refine Ext.drew ?_ | refine Ext.drewN ?_ _ | refine Ext.setCell ?_ (by first | (simp; done) | (simp; omega) | omega) _ | refine Ext.trans ?_ (by assumption))), Hb.out.ext hx1, netOk_step Hok.out H1.out⟩
      · have H1 := Lib.hid h1
        have H1b := Lib.hid (B_false h1)
        clear h1
        go_wp2_with fail
        refine (spec_IsSet u _ wr Hus.out).mono ?_
        rintro e w1 ⟨rfl, hx1⟩
        rw [H1b.out]
        go_wp2_with fail
        go_ret
        exact ⟨ret_bool (B_false (fun h => H1.out (h.2.2.1 j hlt))).symm, (by repeat (first | exact Ext.refl _ | assumption | refine Ext.alloc ?_ _ | refine Ext.drew ?_ | refine Ext.drewN ?_ _ | refine Ext.setCell ?_ (by first | (simp; done) | (simp; omega) | omega) _ | refine Ext.trans ?_ (by assumption)))⟩
    · obtain rfl : j = n.sets.length := by omega
      go_wp2_with fail
      go_loopg [4] n.links.length (fun m i wr => ∃ j : Nat, j + m = n.links.length ∧ i = .int .i64 j ∧ Ext w wr ∧ Boxed wr w.heap.size [.slice A n.sets.length c, .slice A' n.links.length c'] ∧ ∀ i, i < j → LkOk (lkAt n.links i) n.sets.length)
      case atStart => exact ⟨0, by omega, rfl, (by repeat (first | exact Ext.refl _ | assumption | refine Ext.alloc ?_ _ | refine Ext.drew ?_ | refine Ext.drewN ?_ _ | refine Ext.setCell ?_ (by first | (simp; done) | (simp; omega) | omega) _ | refine Ext.trans ?_ (by assumption))), Hb.out, fun i hi => absurd hi (by omega)⟩
      case round =>
        obtain ⟨j, hj, rfl, hx2, hb, hlk⟩ := hrel
        have hb0 := hb.at0
        have hb1 := hb.at1
        have hbg := hb.1
        have Hb := Lib.hid hb
        have Hlk := Lib.hid hlk
        clear hlk hb
        by_cases hlt : j < n.links.length
        · obtain ⟨b, off, rfl, _, hbb, h1, h2, h3, h4⟩ := (Hk.out.ext hx2 (Nat.le_refl _)).at_ hlt
          have hbr : b < wr.heap.size := Nat.lt_of_lt_of_le hbb hx2.size
          by_cases h1 : LkOk (lkAt n.links j) n.sets.length
          · have H1 := Lib.hid h1
            have H1b := Lib.hid (B_true h1)
            clear h1
            go_wp2_with fail
            (refine wp_region_onto prog_mixed (by kernel_rfl) ?_; (repeat (go_big_quiet_step ((go_at_call 56; exact onto_callXb H1b.out (spec_l18Link _ _ _ _ _ _ hn))))); refine onto_end ?_; intro w1 hx1)
            go_wp2_with fail
            go_roundg (n.links.length - (j + 1))
            case measure => omega
            case rel => exact ⟨j + 1, by omega, by go_num, (by repeat (first | exact Ext.refl _ | assumption | refine Ext.alloc ?_ _ | refine Ext.drew ?_ | refine Ext.drewN ?_ _ | refine Ext.setCell ?_ (by first | (simp; done) | (simp; omega) | omega) _ | refine Ext.trans ?_ (by assumption))), Hb.out.ext hx1, netOk_step Hlk.out H1.out⟩
          · have H1 := Lib.hid h1
            have H1b := Lib.hid (B_false h1)
            clear h1
            go_wp2_with fail
            (refine wp_region_onto prog_mixed (by kernel_rfl) ?_; (repeat (go_big_quiet_step ((go_at_call 56; exact onto_callXb H1b.out (spec_l18Link _ _ _ _ _ _ hn))))); refine onto_end ?_; intro w1 hx1)
            go_wp2_with fail
            go_ret
            exact ⟨ret_bool (B_false (fun h => H1.out (h.2.2.2 j hlt))).symm, (by repeat (first | exact Ext.refl _ | assumption | refine Ext.alloc ?_ _ | refine Ext.drew ?_ | refine Ext.drewN ?_ _ | refine Ext.setCell ?_ (by first | (simp; done) | (simp; omega) | omega) _ | refine Ext.trans ?_ (by assumption)))⟩
        · obtain rfl : j = n.links.length := by omega
          go_wp2_with fail
          all_goals (go_ret; refine ⟨ret_bool (B_eq ?_), (by repeat (first | exact Ext.refl _ | assumption | refine Ext.alloc ?_ _ | refine Ext.drew ?_ | refine Ext.drewN ?_ _ | refine Ext.setCell ?_ (by first | (simp; done) | (simp; omega) | omega) _ | refine Ext.trans ?_ (by assumption)))⟩)
          all_goals simp only [decide_eq_true_eq, Bool.false_eq_true, false_iff]
          · exact ⟨fun h => ⟨by omega, by omega, Hok.out, Hlk.out⟩, fun h => by have := h.2.1; omega⟩
          · intro h
            have := h.1
            omega
end Go.Proofs.YtfmnkojjkjkdeaaDoor
