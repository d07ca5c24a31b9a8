/- Contracts: the words of the laws over a code. -/
import Derived.Test.YtfajmlkiidnhlaaQ4E
import Derived.Test.YtfajmlkiidnhlaaQ4G
import Derived.Test.YtfajmlkiidnhlaaQ4S
namespace Go.Proofs.Ytfajmlkiidnhlaa
set_option linter.unusedVariables false
set_option linter.unusedSimpArgs false
open Go.RowKit
attribute [local go_sem] cell_onto

theorem laws_big_no (cn : Nat) (A : Option Addr) (c : Nat) (w : World) (h : cn ≤ 4096) : Calls Try.prog 10 #[.slice A cn c] w (RetS (.bool false) w) := by
  have hh : ¬ (4096 : Int) < (cn : Int) := by omega
  go_enter Try.func10, Try.ntmps10
  go_wp2_with fail
  go_ret
  exact ⟨rfl, rfl⟩
theorem laws_big_yes (cn : Nat) (A : Option Addr) (c : Nat) (w : World) (h : ¬ cn ≤ 4096) : Calls Try.prog 10 #[.slice A cn c] w (RetS (.bool true) w) := by
  have hh : (4096 : Int) < (cn : Int) := by omega
  go_enter Try.func10, Try.ntmps10
  go_wp2_with fail
  go_ret
  exact ⟨rfl, rfl⟩
set_option maxHeartbeats 1000000 in
theorem laws_likeInts (v v' : Value) (l : List Int) (w : World) (h : Ints w 0 w.heap.size v l) (h' : Ints w 0 w.heap.size v' l) :
    Calls Try.prog 19 #[v, v'] w (RetX (.bool true) w) := by
  obtain ⟨A, c, rfl, hn, hc⟩ := h.len
  obtain ⟨A', c', rfl, _, hc'⟩ := h'.len
  have H := Lib.hid h
  have H' := Lib.hid h'
  clear h h'
  go_enter Try.func19, Try.ntmps19
  go_wp2_with fail
  go_loopg [5] l.length (fun k i wr => ∃ j : Nat, j + k = l.length ∧ i = .int .i64 j ∧ Ext w wr)
  case atStart => exact ⟨0, by omega, rfl, (by repeat (first | exact Ext.refl _ | assumption | refine Ext.alloc ?_ _ | refine Ext.drew ?_ | refine Ext.drewN ?_ _ | refine Ext.setCell ?_ (by first | (simp; done) | (simp; omega) | omega) _ | refine Ext.trans ?_ (by assumption)))⟩
  case round =>
    obtain ⟨j, hj, rfl, hx⟩ := hrel
    by_cases hlt : j < l.length
    · obtain ⟨b, off, rfl, _, hb, h1⟩ := (H.out.ext hx (Nat.le_refl _)).at_ hlt
      obtain ⟨b', off', rfl, _, hb', h1'⟩ := (H'.out.ext hx (Nat.le_refl _)).at_ hlt
      have hbr : b < wr.heap.size := Nat.lt_of_lt_of_le hb hx.size
      have hbr' : b' < wr.heap.size := Nat.lt_of_lt_of_le hb' hx.size
      go_wp2_with fail
      (refine wp_region_onto prog_mixed (by kernel_rfl) ?_; (repeat (go_big_quiet_step ((fail)))); refine onto_end ?_; intro w1 hx1)
      go_wp2_with fail
      go_roundg (l.length - (j + 1))
      case measure => omega
      case rel => exact ⟨j + 1, by omega, by go_num, (by repeat (first | exact Ext.refl _ | assumption | refine Ext.alloc ?_ _ | refine Ext.drew ?_ | refine Ext.drewN ?_ _ | refine Ext.setCell ?_ (by first | (simp; done) | (simp; omega) | omega) _ | refine Ext.trans ?_ (by assumption)))⟩
    · obtain rfl : j = l.length := by omega
      go_wp2_with fail
      go_ret
      exact ⟨rfl, (by repeat (first | exact Ext.refl _ | assumption | refine Ext.alloc ?_ _ | refine Ext.drew ?_ | refine Ext.drewN ?_ _ | refine Ext.setCell ?_ (by first | (simp; done) | (simp; omega) | omega) _ | refine Ext.trans ?_ (by assumption)))⟩
set_option maxHeartbeats 1000000 in
theorem laws_likeSpans9 (v v' : Value) (l : List Sp) (w : World) (h : Spans w 0 w.heap.size v l) (h' : Spans w 0 w.heap.size v' l) :
    Calls Try.prog 54 #[v, v'] w (RetX (.bool true) w) := by
  obtain ⟨A, c, rfl, hn, hc⟩ := h.len
  obtain ⟨A', c', rfl, _, hc'⟩ := h'.len
  have H := Lib.hid h
  have H' := Lib.hid h'
  clear h h'
  go_enter Try.func54, Try.ntmps54
  go_wp2_with fail
  go_loopg [5] l.length (fun k i wr => ∃ j : Nat, j + k = l.length ∧ i = .int .i64 j ∧ Ext w wr)
  case atStart => exact ⟨0, by omega, rfl, (by repeat (first | exact Ext.refl _ | assumption | refine Ext.alloc ?_ _ | refine Ext.drew ?_ | refine Ext.drewN ?_ _ | refine Ext.setCell ?_ (by first | (simp; done) | (simp; omega) | omega) _ | refine Ext.trans ?_ (by assumption)))⟩
  case round =>
    obtain ⟨j, hj, rfl, hx⟩ := hrel
    by_cases hlt : j < l.length
    · obtain ⟨b, off, rfl, _, hb, h1⟩ := (H.out.ext hx (Nat.le_refl _)).at_ hlt
      obtain ⟨b', off', rfl, _, hb', h1'⟩ := (H'.out.ext hx (Nat.le_refl _)).at_ hlt
      have hbr : b < wr.heap.size := Nat.lt_of_lt_of_le hb hx.size
      have hbr' : b' < wr.heap.size := Nat.lt_of_lt_of_le hb' hx.size
      go_wp2_with fail
      (refine wp_region_onto prog_mixed (by kernel_rfl) ?_; (repeat (go_big_quiet_step ((fail)))); refine onto_end ?_; intro w1 hx1)
      go_wp2_with fail
      go_roundg (l.length - (j + 1))
      case measure => omega
      case rel => exact ⟨j + 1, by omega, by go_num, (by repeat (first | exact Ext.refl _ | assumption | refine Ext.alloc ?_ _ | refine Ext.drew ?_ | refine Ext.drewN ?_ _ | refine Ext.setCell ?_ (by first | (simp; done) | (simp; omega) | omega) _ | refine Ext.trans ?_ (by assumption)))⟩
    · obtain rfl : j = l.length := by omega
      go_wp2_with fail
      go_ret
      exact ⟨rfl, (by repeat (first | exact Ext.refl _ | assumption | refine Ext.alloc ?_ _ | refine Ext.drew ?_ | refine Ext.drewN ?_ _ | refine Ext.setCell ?_ (by first | (simp; done) | (simp; omega) | omega) _ | refine Ext.trans ?_ (by assumption)))⟩
set_option maxHeartbeats 1000000 in
theorem laws_likeLinks9 (v v' : Value) (l : List Lk) (w : World) (h : Links w 0 w.heap.size v l) (h' : Links w 0 w.heap.size v' l) :
    Calls Try.prog 138 #[v, v'] w (RetX (.bool true) w) := by
  obtain ⟨A, c, rfl, hn, hc⟩ := h.len
  obtain ⟨A', c', rfl, _, hc'⟩ := h'.len
  have H := Lib.hid h
  have H' := Lib.hid h'
  clear h h'
  go_enter Try.func138, Try.ntmps138
  go_wp2_with fail
  go_loopg [5] l.length (fun k i wr => ∃ j : Nat, j + k = l.length ∧ i = .int .i64 j ∧ Ext w wr)
  case atStart => exact ⟨0, by omega, rfl, (by repeat (first | exact Ext.refl _ | assumption | refine Ext.alloc ?_ _ | refine Ext.drew ?_ | refine Ext.drewN ?_ _ | refine Ext.setCell ?_ (by first | (simp; done) | (simp; omega) | omega) _ | refine Ext.trans ?_ (by assumption)))⟩
  case round =>
    obtain ⟨j, hj, rfl, hx⟩ := hrel
    by_cases hlt : j < l.length
    · obtain ⟨b, off, rfl, _, hb, h1⟩ := (H.out.ext hx (Nat.le_refl _)).at_ hlt
      obtain ⟨b', off', rfl, _, hb', h1'⟩ := (H'.out.ext hx (Nat.le_refl _)).at_ hlt
      have hbr : b < wr.heap.size := Nat.lt_of_lt_of_le hb hx.size
      have hbr' : b' < wr.heap.size := Nat.lt_of_lt_of_le hb' hx.size
      go_wp2_with fail
      (refine wp_region_onto prog_mixed (by kernel_rfl) ?_; (repeat (go_big_quiet_step ((fail)))); refine onto_end ?_; intro w1 hx1)
      go_wp2_with fail
      go_roundg (l.length - (j + 1))
      case measure => omega
      case rel => exact ⟨j + 1, by omega, by go_num, (by repeat (first | exact Ext.refl _ | assumption | refine Ext.alloc ?_ _ | refine Ext.drew ?_ | refine Ext.drewN ?_ _ | refine Ext.setCell ?_ (by first | (simp; done) | (simp; omega) | omega) _ | refine Ext.trans ?_ (by assumption)))⟩
    · obtain rfl : j = l.length := by omega
      go_wp2_with fail
      go_ret
      exact ⟨rfl, (by repeat (first | exact Ext.refl _ | assumption | refine Ext.alloc ?_ _ | refine Ext.drew ?_ | refine Ext.drewN ?_ _ | refine Ext.setCell ?_ (by first | (simp; done) | (simp; omega) | omega) _ | refine Ext.trans ?_ (by assumption)))⟩
set_option maxHeartbeats 1000000 in
theorem laws_likeSets9 (v v' : Value) (l : List (List Sp)) (w : World) (h : Sets w 0 w.heap.size v l) (h' : Sets w 0 w.heap.size v' l) :
    Calls Try.prog 137 #[v, v'] w (RetX (.bool true) w) := by
  obtain ⟨A, c, rfl, hn, hc⟩ := h.len
  obtain ⟨A', c', rfl, _, hc'⟩ := h'.len
  have H := Lib.hid h
  have H' := Lib.hid h'
  clear h h'
  go_enter Try.func137, Try.ntmps137
  go_wp2_with fail
  go_loopg [5] l.length (fun k i wr => ∃ j : Nat, j + k = l.length ∧ i = .int .i64 j ∧ Ext w wr)
  case atStart => exact ⟨0, by omega, rfl, (by repeat (first | exact Ext.refl _ | assumption | refine Ext.alloc ?_ _ | refine Ext.drew ?_ | refine Ext.drewN ?_ _ | refine Ext.setCell ?_ (by first | (simp; done) | (simp; omega) | omega) _ | refine Ext.trans ?_ (by assumption)))⟩
  case round =>
    obtain ⟨j, hj, rfl, hx⟩ := hrel
    by_cases hlt : j < l.length
    · obtain ⟨b, off, u, rfl, _, hb, h1, hu⟩ := (H.out.ext hx (Nat.le_refl _)).at_ hlt
      obtain ⟨b', off', u', rfl, _, hb', h1', hu'⟩ := (H'.out.ext hx (Nat.le_refl _)).at_ hlt
      have hbr : b < wr.heap.size := Nat.lt_of_lt_of_le hb hx.size
      have hbr' : b' < wr.heap.size := Nat.lt_of_lt_of_le hb' hx.size
      have Hu := Lib.hid (hu.mono (Nat.le_refl 0) hx.size)
      have Hu' := Lib.hid (hu'.mono (Nat.le_refl 0) hx.size)
      clear hu hu'
      go_wp2_with fail
      (refine wp_region_onto prog_mixed (by kernel_rfl) ?_; (repeat (go_big_quiet_step ((go_at_call 54; exact onto_callX (laws_likeSpans9 _ _ (setAt l j) _ ((Hu.out.ext (onto_ext _ _) (Nat.le_refl _)).mono (Nat.le_refl _) (onto_ext _ _).size) ((Hu'.out.ext (onto_ext _ _) (Nat.le_refl _)).mono (Nat.le_refl _) (onto_ext _ _).size)))))); refine onto_end ?_; intro w1 hx1)
      go_wp2_with fail
      go_roundg (l.length - (j + 1))
      case measure => omega
      case rel => exact ⟨j + 1, by omega, by go_num, (by repeat (first | exact Ext.refl _ | assumption | refine Ext.alloc ?_ _ | refine Ext.drew ?_ | refine Ext.drewN ?_ _ | refine Ext.setCell ?_ (by first | (simp; done) | (simp; omega) | omega) _ | refine Ext.trans ?_ (by assumption)))⟩
    · obtain rfl : j = l.length := by omega
      go_wp2_with fail
      go_ret
      exact ⟨rfl, (by repeat (first | exact Ext.refl _ | assumption | refine Ext.alloc ?_ _ | refine Ext.drew ?_ | refine Ext.drewN ?_ _ | refine Ext.setCell ?_ (by first | (simp; done) | (simp; omega) | omega) _ | refine Ext.trans ?_ (by assumption)))⟩
set_option maxHeartbeats 400000 in
theorem laws_likeNetworks9 (s k s' k' : Value) (n : Net) (w : World) (h : NetIn w s k n) (h' : NetIn w s' k' n) :
    Calls Try.prog 44 #[.agg #[s, k], .agg #[s', k']] w (RetX (.bool true) w) := by
  obtain ⟨hs, hk⟩ := h
  obtain ⟨hs', hk'⟩ := h'
  have Hs := Lib.hid hs
  have Hk := Lib.hid hk
  have Hs' := Lib.hid hs'
  have Hk' := Lib.hid hk'
  clear hs hk hs' hk'
  go_enter Try.func44, Try.ntmps44
  go_wp2_with fail
  refine (laws_likeSets9 s s' n.sets _ ((Hs.out.ext ((by repeat (first | exact Ext.refl _ | assumption | refine Ext.alloc ?_ _ | refine Ext.drew ?_ | refine Ext.drewN ?_ _ | refine Ext.setCell ?_ (by first | (simp; done) | (simp; omega) | omega) _ | refine Ext.trans ?_ (by assumption))) : Ext w _) (Nat.le_refl _)).mono (Nat.le_refl _) (by simp; omega)) ((Hs'.out.ext ((by repeat (first | exact Ext.refl _ | assumption | refine Ext.alloc ?_ _ | refine Ext.drew ?_ | refine Ext.drewN ?_ _ | refine Ext.setCell ?_ (by first | (simp; done) | (simp; omega) | omega) _ | refine Ext.trans ?_ (by assumption))) : Ext w _) (Nat.le_refl _)).mono (Nat.le_refl _) (by simp; omega))).mono ?_
  rintro e w1 ⟨rfl, hx1⟩
  have hb1 := ((Boxed.new w [s, k] 27).ext ((Ext.refl _).alloc _)).ext hx1
  have hb2 : Boxed w1 (w.heap.size + 1) [s', k'] := by
    have := (Boxed.new (w.alloc _) [s', k'] 27).ext hx1
    rwa [World.size_alloc] at this
  have hx : Ext w w1 := (by repeat (first | exact Ext.refl _ | assumption | refine Ext.alloc ?_ _ | refine Ext.drew ?_ | refine Ext.drewN ?_ _ | refine Ext.setCell ?_ (by first | (simp; done) | (simp; omega) | omega) _ | refine Ext.trans ?_ (by assumption)))
  have h11 := hb1.at1
  have h21 := hb2.at1
  have hz1 := hb1.1
  have hz2 := hb2.1
  clear hb1 hb2 hx1
  go_wp2_with fail
  refine (laws_likeLinks9 k k' n.links _ ((Hk.out.ext hx (Nat.le_refl _)).mono (Nat.le_refl _) hx.size) ((Hk'.out.ext hx (Nat.le_refl _)).mono (Nat.le_refl _) hx.size)).mono ?_
  rintro e w2 ⟨rfl, hx2⟩
  go_wp2_with fail
  go_ret
  exact ⟨rfl, (by repeat (first | exact Ext.refl _ | assumption | refine Ext.alloc ?_ _ | refine Ext.drew ?_ | refine Ext.drewN ?_ _ | refine Ext.setCell ?_ (by first | (simp; done) | (simp; omega) | omega) _ | refine Ext.trans ?_ (by assumption)))⟩
noncomputable def hdE (l : List Sp) (d : Int) : Int := bif B (SetOk l) then (bif B (DayOk d) then 0 else 2) else 1
noncomputable def hdV (l : List Sp) (d : Int) : Bool := bif B (SetOk l) then (bif B (DayOk d) then B (HasDay l d) else false) else false
theorem impl_HasDay (v : Value) (l : List Sp) (d : Int) (w : World) (h : Spans w 0 w.heap.size v l) : Calls Try.prog 21 #[v, .int .i64 d] w (RetX (.tuple #[.bool (hdV l d), .int .i64 (hdE l d)]) w) := by
  have H := Lib.hid h
  clear h
  go_enter Try.func21, Try.ntmps21
  go_wp2_with fail
  refine Calls.mono (impl_IsSet _ l _ (H.out.up (by repeat (first | exact Ext.refl _ | assumption | refine Ext.alloc ?_ _ | refine Ext.drew ?_ | refine Ext.drewN ?_ _ | refine Ext.setCell ?_ (by first | (simp; done) | (simp; omega) | omega) _ | refine Ext.trans ?_ (by assumption))))) ?_
  rintro e w1 ⟨rfl, hx1⟩
  by_cases h1 : SetOk l
  case neg =>
    rw [B_false h1]
    go_wp2_with fail
    refine bodyPost_ret (v := .tuple #[.bool (hdV l d), .int .i64 (hdE l d)]) (by simp [results, Try.results21, go_sem, hdV, hdE, B_false h1]) rfl ⟨rfl, (by repeat (first | exact Ext.refl _ | assumption | refine Ext.alloc ?_ _ | refine Ext.drew ?_ | refine Ext.drewN ?_ _ | refine Ext.setCell ?_ (by first | (simp; done) | (simp; omega) | omega) _ | refine Ext.trans ?_ (by assumption)))⟩
  rw [B_true h1]
  go_wp2_with fail
  refine Calls.mono (impl_isDay d _) ?_
  rintro e w2 ⟨rfl, rfl⟩
  by_cases h2 : DayOk d
  case neg =>
    rw [B_false h2]
    go_wp2_with fail
    refine bodyPost_ret (v := .tuple #[.bool (hdV l d), .int .i64 (hdE l d)]) (by simp [results, Try.results21, go_sem, hdV, hdE, B_true h1, B_false h2]) rfl ⟨rfl, (by repeat (first | exact Ext.refl _ | assumption | refine Ext.alloc ?_ _ | refine Ext.drew ?_ | refine Ext.drewN ?_ _ | refine Ext.setCell ?_ (by first | (simp; done) | (simp; omega) | omega) _ | refine Ext.trans ?_ (by assumption)))⟩
  rw [B_true h2]
  go_wp2_with fail
  refine Calls.mono (impl_hasDay _ l d _ (H.out.up (by repeat (first | exact Ext.refl _ | assumption | refine Ext.alloc ?_ _ | refine Ext.drew ?_ | refine Ext.drewN ?_ _ | refine Ext.setCell ?_ (by first | (simp; done) | (simp; omega) | omega) _ | refine Ext.trans ?_ (by assumption))))) ?_
  rintro e w3 ⟨rfl, hx3⟩
  go_wp2_with fail
  refine bodyPost_ret (v := .tuple #[.bool (hdV l d), .int .i64 (hdE l d)]) (by simp [results, Try.results21, go_sem, hdV, hdE, B_true h1, B_true h2]) rfl ⟨rfl, (by repeat (first | exact Ext.refl _ | assumption | refine Ext.alloc ?_ _ | refine Ext.drew ?_ | refine Ext.drewN ?_ _ | refine Ext.setCell ?_ (by first | (simp; done) | (simp; omega) | omega) _ | refine Ext.trans ?_ (by assumption)))⟩
end Go.Proofs.Ytfajmlkiidnhlaa
