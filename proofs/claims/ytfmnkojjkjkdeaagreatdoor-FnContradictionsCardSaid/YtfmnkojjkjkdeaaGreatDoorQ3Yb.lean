/- Texts merged (a claim holds at most sixty files): Yb, Gc. -/
import Derived.Test.YtfmnkojjkjkdeaaGreatDoorQ3E
import Derived.Test.YtfmnkojjkjkdeaaGreatDoorQ3G
import Derived.Test.YtfmnkojjkjkdeaaGreatDoorQ3S
import Derived.Test.YtfmnkojjkjkdeaaGreatDoorQ3Dp
/- Contracts: the words of the laws over a code. -/
namespace Go.Proofs.YtfmnkojjkjkdeaaGreatDoor
set_option linter.unusedVariables false
set_option linter.unusedSimpArgs false
open Go.RowKit
attribute [local go_sem] cell_onto

theorem laws_big_no (cn : Nat) (A : Option Addr) (c : Nat) (w : World) (h : cn ≤ 4096) : Calls Tryz.prog 7 #[.slice A cn c] w (RetS (.bool false) w) := by
  have hh : ¬ (4096 : Int) < (cn : Int) := by omega
  go_enter Tryz.func7, Tryz.ntmps7
  go_wp2_with fail
  go_ret
  exact ⟨rfl, rfl⟩
theorem laws_big_yes (cn : Nat) (A : Option Addr) (c : Nat) (w : World) (h : ¬ cn ≤ 4096) : Calls Tryz.prog 7 #[.slice A cn c] w (RetS (.bool true) w) := by
  have hh : (4096 : Int) < (cn : Int) := by omega
  go_enter Tryz.func7, Tryz.ntmps7
  go_wp2_with fail
  go_ret
  exact ⟨rfl, rfl⟩
set_option maxHeartbeats 1000000 in
theorem laws_likeInts (v v' : Value) (l : List Int) (w : World) (h : Ints w 0 w.heap.size v l) (h' : Ints w 0 w.heap.size v' l) :
    Calls Tryz.prog 20 #[v, v'] w (RetX (.bool true) w) := by
  obtain ⟨A, c, rfl, hn, hc⟩ := h.len
  obtain ⟨A', c', rfl, _, hc'⟩ := h'.len
  have H := Lib.hid h
  have H' := Lib.hid h'
  clear h h'
  go_enter Tryz.func20, Tryz.ntmps20
  go_wp2_with fail
  go_loopg [5] l.length (fun k i wr => ∃ j : Nat, j + k = l.length ∧ i = .int .i64 j ∧ Ext w wr)
  case atStart => exact ⟨0, by omega, rfl, (by repeat (first | exact Ext.refl _ | assumption | refine Ext.alloc ?_ _ | refine Ext.drew ?_ | refine Ext.drewN ?_ _ | refine Ext.setCell ?_ (by first | (simp; done) | (simp; omega) | omega) _ | refine Ext.trans ?_ (by assumption)))⟩
  case round =>
    obtain ⟨j, hj, rfl, hx⟩ := hrel
    by_cases hlt : j < l.length
    · obtain ⟨b, off, rfl, _, hb, h1⟩ := (H.out.ext hx (Nat.le_refl _)).at_ hlt
      obtain ⟨b', off', rfl, _, hb', h1'⟩ := (H'.out.ext hx (Nat.le_refl _)).at_ hlt
      have hbr : b < wr.heap.size := Nat.lt_of_lt_of_le hb hx.size
      have hbr' : b' < wr.heap.size := Nat.lt_of_lt_of_le hb' hx.size
      go_wp2_with fail
      (refine wp_region_onto prog_mixed (by kernel_rfl) ?_; (repeat (go_big_quiet_step ((fail)))); refine onto_end ?_; intro w1 hx1)
      go_wp2_with fail
      go_roundg (l.length - (j + 1))
      case measure => omega
      case rel => exact ⟨j + 1, by omega, by go_num, (by repeat (first | exact Ext.refl _ | assumption | refine Ext.alloc ?_ _ | refine Ext.drew ?_ | refine Ext.drewN ?_ _ | refine Ext.setCell ?_ (by first | (simp; done) | (simp; omega) | omega) _ | refine Ext.trans ?_ (by assumption)))⟩
    · obtain rfl : j = l.length := by omega
      go_wp2_with fail
      go_ret
      exact ⟨rfl, (by repeat (first | exact Ext.refl _ | assumption | refine Ext.alloc ?_ _ | refine Ext.drew ?_ | refine Ext.drewN ?_ _ | refine Ext.setCell ?_ (by first | (simp; done) | (simp; omega) | omega) _ | refine Ext.trans ?_ (by assumption)))⟩
set_option maxHeartbeats 1000000 in
theorem laws_likeSpans9 (v v' : Value) (l : List Sp) (w : World) (h : Spans w 0 w.heap.size v l) (h' : Spans w 0 w.heap.size v' l) :
    Calls Tryz.prog 32 #[v, v'] w (RetX (.bool true) w) := by
  obtain ⟨A, c, rfl, hn, hc⟩ := h.len
  obtain ⟨A', c', rfl, _, hc'⟩ := h'.len
  have H := Lib.hid h
  have H' := Lib.hid h'
  clear h h'
  go_enter Tryz.func32, Tryz.ntmps32
  go_wp2_with fail
  go_loopg [5] l.length (fun k i wr => ∃ j : Nat, j + k = l.length ∧ i = .int .i64 j ∧ Ext w wr)
  case atStart => exact ⟨0, by omega, rfl, (by repeat (first | exact Ext.refl _ | assumption | refine Ext.alloc ?_ _ | refine Ext.drew ?_ | refine Ext.drewN ?_ _ | refine Ext.setCell ?_ (by first | (simp; done) | (simp; omega) | omega) _ | refine Ext.trans ?_ (by assumption)))⟩
  case round =>
    obtain ⟨j, hj, rfl, hx⟩ := hrel
    by_cases hlt : j < l.length
    · obtain ⟨b, off, rfl, _, hb, h1⟩ := (H.out.ext hx (Nat.le_refl _)).at_ hlt
      obtain ⟨b', off', rfl, _, hb', h1'⟩ := (H'.out.ext hx (Nat.le_refl _)).at_ hlt
      have hbr : b < wr.heap.size := Nat.lt_of_lt_of_le hb hx.size
      have hbr' : b' < wr.heap.size := Nat.lt_of_lt_of_le hb' hx.size
      go_wp2_with fail
      (refine wp_region_onto prog_mixed (by kernel_rfl) ?_; (repeat (go_big_quiet_step ((fail)))); refine onto_end ?_; intro w1 hx1)
      go_wp2_with fail
      go_roundg (l.length - (j + 1))
      case measure => omega
      case rel => exact ⟨j + 1, by omega, by go_num, (by repeat (first | exact Ext.refl _ | assumption | refine Ext.alloc ?_ _ | refine Ext.drew ?_ | refine Ext.drewN ?_ _ | refine Ext.setCell ?_ (by first | (simp; done) | (simp; omega) | omega) _ | refine Ext.trans ?_ (by assumption)))⟩
    · obtain rfl : j = l.length := by omega
      go_wp2_with fail
      go_ret
      exact ⟨rfl, (by repeat (first | exact Ext.refl _ | assumption | refine Ext.alloc ?_ _ | refine Ext.drew ?_ | refine Ext.drewN ?_ _ | refine Ext.setCell ?_ (by first | (simp; done) | (simp; omega) | omega) _ | refine Ext.trans ?_ (by assumption)))⟩
noncomputable def hdE (l : List Sp) (d : Int) : Int := bif B (SetOk l) then (bif B (DayOk d) then 0 else 2) else 1
noncomputable def hdV (l : List Sp) (d : Int) : Bool := bif B (SetOk l) then (bif B (DayOk d) then B (HasDay l d) else false) else false
theorem impl_HasDay (v : Value) (l : List Sp) (d : Int) (w : World) (h : Spans w 0 w.heap.size v l) : Calls Tryz.prog 34 #[v, .int .i64 d] w (RetX (.tuple #[.bool (hdV l d), .int .i64 (hdE l d)]) w) := by
  have H := Lib.hid h
  clear h
  go_enter Tryz.func34, Tryz.ntmps34
  go_wp2_with fail
  refine Calls.mono (impl_IsSet _ l _ (H.out.up (by repeat (first | exact Ext.refl _ | assumption | refine Ext.alloc ?_ _ | refine Ext.drew ?_ | refine Ext.drewN ?_ _ | refine Ext.setCell ?_ (by first | (simp; done) | (simp; omega) | omega) _ | refine Ext.trans ?_ (by assumption))))) ?_
  rintro e w1 ⟨rfl, hx1⟩
  by_cases h1 : SetOk l
  case neg =>
    rw [B_false h1]
    go_wp2_with fail
    refine bodyPost_ret (v := .tuple #[.bool (hdV l d), .int .i64 (hdE l d)]) (by simp [results, Tryz.results34, go_sem, hdV, hdE, B_false h1]) rfl ⟨rfl, (by repeat (first | exact Ext.refl _ | assumption | refine Ext.alloc ?_ _ | refine Ext.drew ?_ | refine Ext.drewN ?_ _ | refine Ext.setCell ?_ (by first | (simp; done) | (simp; omega) | omega) _ | refine Ext.trans ?_ (by assumption)))⟩
  rw [B_true h1]
  go_wp2_with fail
  refine Calls.mono (impl_isDay d _) ?_
  rintro e w2 ⟨rfl, rfl⟩
  by_cases h2 : DayOk d
  case neg =>
    rw [B_false h2]
    go_wp2_with fail
    refine bodyPost_ret (v := .tuple #[.bool (hdV l d), .int .i64 (hdE l d)]) (by simp [results, Tryz.results34, go_sem, hdV, hdE, B_true h1, B_false h2]) rfl ⟨rfl, (by repeat (first | exact Ext.refl _ | assumption | refine Ext.alloc ?_ _ | refine Ext.drew ?_ | refine Ext.drewN ?_ _ | refine Ext.setCell ?_ (by first | (simp; done) | (simp; omega) | omega) _ | refine Ext.trans ?_ (by assumption)))⟩
  rw [B_true h2]
  go_wp2_with fail
  refine Calls.mono (impl_hasDay _ l d _ (H.out.up (by repeat (first | exact Ext.refl _ | assumption | refine Ext.alloc ?_ _ | refine Ext.drew ?_ | refine Ext.drewN ?_ _ | refine Ext.setCell ?_ (by first | (simp; done) | (simp; omega) | omega) _ | refine Ext.trans ?_ (by assumption))))) ?_
  rintro e w3 ⟨rfl, hx3⟩
  go_wp2_with fail
  refine bodyPost_ret (v := .tuple #[.bool (hdV l d), .int .i64 (hdE l d)]) (by simp [results, Tryz.results34, go_sem, hdV, hdE, B_true h1, B_true h2]) rfl ⟨rfl, (by repeat (first | exact Ext.refl _ | assumption | refine Ext.alloc ?_ _ | refine Ext.drew ?_ | refine Ext.drewN ?_ _ | refine Ext.setCell ?_ (by first | (simp; done) | (simp; omega) | omega) _ | refine Ext.trans ?_ (by assumption)))⟩
end Go.Proofs.YtfmnkojjkjkdeaaGreatDoor

/- Contracts: lists of statements: Contains, Index, their checks. -/
namespace Go.Proofs.YtfmnkojjkjkdeaaGreatDoor
set_option linter.unusedVariables false
set_option linter.unusedSimpArgs false
open Go.RowKit
attribute [local go_sem] cell_onto

set_option maxHeartbeats 1000000 in
theorem slices_Index_ints (v : Value) (l : List Int) (x : Int) (w : World) (h : Ints w 0 w.heap.size v l) : Calls Tryz.prog 198 #[v, .int .i64 x] w (RetIdx l.length (fun i => inAt l i = x) w) := by
  obtain ⟨A, c, rfl, hn, hc⟩ := h.len
  have H := Lib.hid h
  clear h
  go_enter Tryz.func198, Tryz.ntmps198
  go_wp2_with fail
  go_loopg [5, 8] l.length (fun k u i wr => ∃ j : Nat, j + k = l.length ∧ i = .int .i64 j ∧ Ext w wr ∧ ∀ i, i < j → ¬ inAt l i = x)
  case atStart => exact ⟨0, by omega, rfl, Ext.refl _, fun i hi => absurd hi (by omega)⟩
  case round =>
    obtain ⟨j, hj, rfl, hx, hok⟩ := hrel
    have Hok := Lib.hid hok
    clear hok
    by_cases hlt : j < l.length
    · obtain ⟨b, off, rfl, _, hb, h1⟩ := (H.out.ext hx (Nat.le_refl _)).at_ hlt
      by_cases e : inAt l j = x
      · have E := Lib.hid e
        have e1 : (x == inAt l j) = true := by simp [e]
        clear e
        go_wp2_with fail
        go_ret
        exact ⟨j, rfl, (by repeat (first | exact Ext.refl _ | assumption | refine Ext.alloc ?_ _ | refine Ext.drew ?_ | refine Ext.drewN ?_ _ | refine Ext.setCell ?_ (by first | (simp; done) | (simp; omega) | omega) _ | refine Ext.trans ?_ (by assumption))), .inr ⟨by omega, j, hlt, E.out⟩⟩
      · have E := Lib.hid e
        have e1 : (x == inAt l j) = false := by simp; exact fun h => e h.symm
        clear e
        go_wp2_with fail
        go_roundg (l.length - (j + 1))
        case measure => omega
        case rel =>
          refine ⟨j + 1, by omega, by go_num, (by repeat (first | exact Ext.refl _ | assumption | refine Ext.alloc ?_ _ | refine Ext.drew ?_ | refine Ext.drewN ?_ _ | refine Ext.setCell ?_ (by first | (simp; done) | (simp; omega) | omega) _ | refine Ext.trans ?_ (by assumption))), fun i hi => ?_⟩
          by_cases e : i = j
          · rw [e]; exact E.out
          · exact Hok.out i (by omega)
    · obtain rfl : j = l.length := by omega
      go_wp2_with fail
      go_ret
      exact ⟨-1, rfl, (by repeat (first | exact Ext.refl _ | assumption | refine Ext.alloc ?_ _ | refine Ext.drew ?_ | refine Ext.drewN ?_ _ | refine Ext.setCell ?_ (by first | (simp; done) | (simp; omega) | omega) _ | refine Ext.trans ?_ (by assumption))), .inl ⟨rfl, Hok.out⟩⟩
set_option maxHeartbeats 1000000 in
theorem slices_Contains_ints (v : Value) (l : List Int) (x : Int) (w : World) (h : Ints w 0 w.heap.size v l) : Calls Tryz.prog 129 #[v, .int .i64 x] w (RetX (.bool (B (HasI l x))) w) := by
  have H := Lib.hid (slices_Index_ints v l x w h)
  clear h
  go_enter Tryz.func129, Tryz.ntmps129
  go_wp2_with fail
  refine H.out.mono ?_
  rintro e w1 ⟨r, rfl, hx, hr⟩
  have Hr := Lib.hid hr
  clear hr
  go_wp2_with fail
  go_ret
  refine ⟨ret_bool (B_eq ?_), (by repeat (first | exact Ext.refl _ | assumption | refine Ext.alloc ?_ _ | refine Ext.drew ?_ | refine Ext.drewN ?_ _ | refine Ext.setCell ?_ (by first | (simp; done) | (simp; omega) | omega) _ | refine Ext.trans ?_ (by assumption)))⟩
  simp only [decide_eq_true_eq]
  constructor
  · intro h
    rcases Hr.out with ⟨h1, _⟩ | ⟨_, h2⟩
    · omega
    · exact h2
  · rintro ⟨i, h1, h2⟩
    rcases Hr.out with ⟨_, h3⟩ | ⟨h3, _⟩
    · exact absurd h2 (h3 i h1)
    · omega

set_option maxHeartbeats 1000000 in
theorem spec_l01Has (v : Value) (l : List Int) (x : Int) (w : World) (h : Ints w 0 w.heap.size v l) : Calls Tryz.prog 194 #[v, .int .i64 x] w (RetX (.bool (B (HasI l x))) w) := by
  obtain ⟨A, c, rfl, hn, hc⟩ := h.len
  have H := Lib.hid h
  clear h
  go_enter Tryz.func194, Tryz.ntmps194
  go_wp2_with fail
  go_loopg [5] l.length (fun k i wr => ∃ j : Nat, j + k = l.length ∧ i = .int .i64 j ∧ Ext w wr ∧ ∀ i, i < j → ¬ inAt l i = x)
  case atStart => exact ⟨0, by omega, rfl, Ext.refl _, fun i hi => absurd hi (by omega)⟩
  case round =>
    obtain ⟨j, hj, rfl, hx, hok⟩ := hrel
    have Hok := Lib.hid hok
    clear hok
    by_cases hlt : j < l.length
    · obtain ⟨b, off, rfl, _, hb, h1⟩ := (H.out.ext hx (Nat.le_refl _)).at_ hlt
      by_cases e : inAt l j = x
      · have E := Lib.hid e
        have e1 : (inAt l j == x) = true := by simp [e]
        clear e
        go_wp2_with fail
        go_ret
        exact ⟨ret_bool (B_true ⟨j, hlt, E.out⟩).symm, (by repeat (first | exact Ext.refl _ | assumption | refine Ext.alloc ?_ _ | refine Ext.drew ?_ | refine Ext.drewN ?_ _ | refine Ext.setCell ?_ (by first | (simp; done) | (simp; omega) | omega) _ | refine Ext.trans ?_ (by assumption)))⟩
      · have E := Lib.hid e
        have e1 : (inAt l j == x) = false := by simp [e]
        clear e
        go_wp2_with fail
        go_roundg (l.length - (j + 1))
        case measure => omega
        case rel =>
          refine ⟨j + 1, by omega, by go_num, (by repeat (first | exact Ext.refl _ | assumption | refine Ext.alloc ?_ _ | refine Ext.drew ?_ | refine Ext.drewN ?_ _ | refine Ext.setCell ?_ (by first | (simp; done) | (simp; omega) | omega) _ | refine Ext.trans ?_ (by assumption))), fun i hi => ?_⟩
          by_cases e : i = j
          · rw [e]; exact E.out
          · exact Hok.out i (by omega)
    · obtain rfl : j = l.length := by omega
      go_wp2_with fail
      go_ret
      exact ⟨ret_bool (B_false (fun ⟨i, hi, he⟩ => Hok.out i hi he)).symm, (by repeat (first | exact Ext.refl _ | assumption | refine Ext.alloc ?_ _ | refine Ext.drew ?_ | refine Ext.drewN ?_ _ | refine Ext.setCell ?_ (by first | (simp; done) | (simp; omega) | omega) _ | refine Ext.trans ?_ (by assumption)))⟩

def StepI (n : Net) (l : List Int) (i : Nat) : Prop := (0 ≤ inAt l i ∧ inAt l i ≤ (n.sets.length : Int) + n.links.length - 1) ∧ (0 < i → inAt l (i - 1) < inAt l i)
theorem stepI_more {n : Net} {l : List Int} {j : Nat} (h : ∀ i, i < j → StepI n l i) (h' : StepI n l j) : ∀ i, i < j + 1 → StepI n l i := by
  intro i hi
  by_cases e : i = j
  · subst e; exact h'
  · exact h i (by omega)

set_option maxRecDepth 100000 in
set_option maxHeartbeats 2000000 in
theorem impl_checkStatements (s k v : Value) (n : Net) (l : List Int) (w : World) (h : NetIn w s k n) (hl : Ints w 0 w.heap.size v l) :
    Calls Tryz.prog 125 #[.agg #[s, k], v] w (RetX (.int .i64 (stmE n l)) w) := by
  obtain ⟨A, c, rfl, hn, hc⟩ := hl.len
  have H := Lib.hid h
  have Hl := Lib.hid hl
  clear h hl
  go_enter Tryz.func125, Tryz.ntmps125
  go_wp2_with fail
  refine Calls.mono (impl_IsNetwork s k n _ (H.out.up (by repeat (first | exact Ext.refl _ | assumption | refine Ext.alloc ?_ _ | refine Ext.drew ?_ | refine Ext.drewN ?_ _ | refine Ext.setCell ?_ (by first | (simp; done) | (simp; omega) | omega) _ | refine Ext.trans ?_ (by assumption))))) ?_
  rintro e w1 ⟨rfl, hx1⟩
  have hx : Ext w w1 := (by repeat (first | exact Ext.refl _ | assumption | refine Ext.alloc ?_ _ | refine Ext.drew ?_ | refine Ext.drewN ?_ _ | refine Ext.setCell ?_ (by first | (simp; done) | (simp; omega) | omega) _ | refine Ext.trans ?_ (by assumption)))
  by_cases hok : NetOk n
  · have Hok := Lib.hid hok
    have hq := B_true hok
    rw [hq]
    clear hq hok
    have h8 := Hok.out.1
    have h20 := Hok.out.2.1
    have hb := (Boxed.new w [s, k] 27).ext hx1; have hb0 := hb.at0; have hb1 := hb.at1; have hbg := hb.1; have Hhb := Lib.hid hb; clear hb
    clear hx1
    go_wp2_with fail
    go_loopg [5, 6, 12] l.length (fun q u u' i wr => ∃ j : Nat, j + q = l.length ∧ i = .int .i64 j ∧ Ext w wr ∧ Boxed wr w.heap.size [s, k] ∧ ∀ i, i < j → StepI n l i)
    case atStart => exact ⟨0, by omega, rfl, hx, Hhb.out, fun i hi => absurd hi (by omega)⟩
    clear hb0 hb1 hbg Hhb hx
    case round =>
      obtain ⟨j, hj, rfl, hx, hbb, hok⟩ := hrel
      have Hs := Lib.hid hok
      clear hok
      have hb := hbb; have hb0 := hb.at0; have hb1 := hb.at1; have hbg := hb.1; have Hhb := Lib.hid hb; clear hb
      clear hbb
      by_cases hlt : j < l.length
      · obtain ⟨b, off, rfl, _, hb, h1⟩ := (Hl.out.ext hx (Nat.le_refl _)).at_ hlt
        have hbr : b < wr.heap.size := Nat.lt_of_lt_of_le hb hx.size
        go_wp2_with fail
        refine Calls.mono (impl_statementsOf s k n _ (H.out.up hx) ⟨by omega, by omega⟩) ?_
        rintro e w2 ⟨rfl, hx2⟩
        have hxx : Ext w w2 := hx.trans hx2
        have Hbb := Lib.hid (Hhb.out.ext hx2)
        obtain ⟨b', off', e', _, _, h1'⟩ := (Hl.out.ext hxx (Nat.le_refl _)).at_ hlt
        injection e' with e'
        injection e' with e1 e2
        subst e1 e2
        clear h1 hb0 hb1 hbg Hhb hx hbr
        have hbr : b < w2.heap.size := Nat.lt_of_lt_of_le hb hxx.size
        have hb := Hbb.out; have hb0 := hb.at0; have hb1 := hb.at1; have hbg := hb.1; have Hhb := Lib.hid hb; clear hb
        go_wp2_with fail
        refine Calls.mono (impl_within (inAt l j) 0 ((n.sets.length : Int) + n.links.length - 1) _) ?_
        rintro e w' ⟨rfl, rfl⟩
        by_cases hr : 0 ≤ inAt l j ∧ inAt l j ≤ (n.sets.length : Int) + n.links.length - 1
        · have Hr := Lib.hid hr
          have hq := B_true hr
          rw [hq]
          clear hq hr
          by_cases h0 : 0 < j
          · have hb0' : decide ((0 : Int) < (j : Int)) = true := by simp; omega
            obtain ⟨b3, off3, e3, _, _, h3⟩ := (Hl.out.ext hxx (Nat.le_refl _)).at_ (i := j - 1) (by omega)
            injection e3 with e3
            injection e3 with e31 e32
            subst e31 e32
            by_cases hp : inAt l (j - 1) < inAt l j
            · have hd : decide (inAt l j ≤ inAt l (j - 1)) = false := decide_eq_false (by omega)
              have Hp := Lib.hid hp
              clear hp
              go_wp2_with fail
              go_roundg (l.length - (j + 1))
              case measure => omega
              case rel => exact ⟨j + 1, by omega, by go_num, hxx, Hhb.out, stepI_more Hs.out ⟨Hr.out, fun _ => Hp.out⟩⟩
            · have hd : decide (inAt l j ≤ inAt l (j - 1)) = true := decide_eq_true (by omega)
              have Hp := Lib.hid hp
              clear hp
              go_wp2_with fail
              go_ret
              exact ⟨by rw [stm_bad Hok.out (fun hh => by have h7 := (hh j hlt).2 h0; have h9 := Hp.out; omega)]; rfl, (by repeat (first | exact Ext.refl _ | assumption | refine Ext.alloc ?_ _ | refine Ext.drew ?_ | refine Ext.drewN ?_ _ | refine Ext.setCell ?_ (by first | (simp; done) | (simp; omega) | omega) _ | refine Ext.trans ?_ (by assumption)))⟩
          · have hb0' : decide ((0 : Int) < (j : Int)) = false := by simp; omega
            go_wp2_with fail
            go_roundg (l.length - (j + 1))
            case measure => omega
            case rel => exact ⟨j + 1, by omega, by go_num, hxx, Hhb.out, stepI_more Hs.out ⟨Hr.out, fun h => absurd h h0⟩⟩
        · have Hr := Lib.hid hr
          have hq := B_false hr
          rw [hq]
          clear hq hr
          go_wp2_with fail
          go_ret
          exact ⟨by rw [stm_bad Hok.out (fun hh => Hr.out (hh j hlt).1)]; rfl, (by repeat (first | exact Ext.refl _ | assumption | refine Ext.alloc ?_ _ | refine Ext.drew ?_ | refine Ext.drewN ?_ _ | refine Ext.setCell ?_ (by first | (simp; done) | (simp; omega) | omega) _ | refine Ext.trans ?_ (by assumption)))⟩
      · obtain rfl : j = l.length := by omega
        go_wp2_with fail
        go_ret
        exact ⟨by rw [stm_ok Hok.out Hs.out]; rfl, (by repeat (first | exact Ext.refl _ | assumption | refine Ext.alloc ?_ _ | refine Ext.drew ?_ | refine Ext.drewN ?_ _ | refine Ext.setCell ?_ (by first | (simp; done) | (simp; omega) | omega) _ | refine Ext.trans ?_ (by assumption)))⟩
  · have Hok := Lib.hid hok
    have hq := B_false hok
    rw [hq]
    clear hq hok
    go_wp2_with fail
    go_ret
    exact ⟨by rw [stm_net Hok.out]; rfl, (by repeat (first | exact Ext.refl _ | assumption | refine Ext.alloc ?_ _ | refine Ext.drew ?_ | refine Ext.drewN ?_ _ | refine Ext.setCell ?_ (by first | (simp; done) | (simp; omega) | omega) _ | refine Ext.trans ?_ (by assumption)))⟩

set_option maxRecDepth 100000 in
set_option maxHeartbeats 2000000 in
theorem spec_l21List (s k v : Value) (n : Net) (l : List Int) (w : World) (h : NetIn w s k n) (hl : Ints w 0 w.heap.size v l) (hok : NetOk n) :
    Calls Tryz.prog 132 #[.agg #[s, k], v] w (RetX (.bool (B (StmOk n l))) w) := by
  obtain ⟨A, c, rfl, hn, hc⟩ := hl.len
  have H := Lib.hid h
  have Hl := Lib.hid hl
  have Hok := Lib.hid hok
  have h8 := hok.1
  have h20 := hok.2.1
  clear h hl hok
  go_enter Tryz.func132, Tryz.ntmps132
  have hb := Boxed.new w [s, k] 27; have hb0 := hb.at0; have hb1 := hb.at1; have hbg := hb.1; have Hhb := Lib.hid hb; clear hb
  go_wp2_with fail
  go_loopg [5] l.length (fun q i wr => ∃ j : Nat, j + q = l.length ∧ i = .int .i64 j ∧ Ext w wr ∧ Boxed wr w.heap.size [s, k] ∧ ∀ i, i < j → StepI n l i)
  case atStart => exact ⟨0, by omega, rfl, (by repeat (first | exact Ext.refl _ | assumption | refine Ext.alloc ?_ _ | refine Ext.drew ?_ | refine Ext.drewN ?_ _ | refine Ext.setCell ?_ (by first | (simp; done) | (simp; omega) | omega) _ | refine Ext.trans ?_ (by assumption))), Hhb.out, fun i hi => absurd hi (by omega)⟩
  clear hb0 hb1 hbg Hhb
  case round =>
    obtain ⟨j, hj, rfl, hx, hbb, hok⟩ := hrel
    have Hs := Lib.hid hok
    clear hok
    have hb := hbb; have hb0 := hb.at0; have hb1 := hb.at1; have hbg := hb.1; have Hhb := Lib.hid hb; clear hb
    clear hbb
    by_cases hlt : j < l.length
    · obtain ⟨b, off, rfl, _, hb, h1⟩ := (Hl.out.ext hx (Nat.le_refl _)).at_ hlt
      have hbr : b < wr.heap.size := Nat.lt_of_lt_of_le hb hx.size
      have hjl : (j : Int) < (l.length : Int) := by omega
      by_cases hr : 0 ≤ inAt l j ∧ inAt l j ≤ (n.sets.length : Int) + n.links.length - 1
      · have Hr := Lib.hid hr
        have Hr1 := Lib.hid (B_true hr)
        clear hr
        by_cases h0 : 0 < j
        · have hb0' : decide ((0 : Int) < (j : Int)) = true := by simp; omega
          obtain ⟨b3, off3, e3, _, _, h3⟩ := (Hl.out.ext hx (Nat.le_refl _)).at_ (i := j - 1) (by omega)
          injection e3 with e3
          injection e3 with e31 e32
          subst e31 e32
          by_cases hp : inAt l (j - 1) < inAt l j
          · have hd : decide (inAt l j ≤ inAt l (j - 1)) = false := decide_eq_false (by omega)
            have Hp := Lib.hid hp
            clear hp
            go_wp2_with fail
            (refine wp_region_onto prog_mixed (by kernel_rfl) ?_; (repeat (go_big_quiet_step ((first | (go_at_call 65; exact onto_callX (spec_l21Count s k n _ (H.out.up (hx.trans (onto_ext _ _))) ⟨by omega, by omega⟩)) | (go_at_call 71; exact onto_callSb Hr1.out (spec_l01In _ _ _ _)))))); refine onto_end ?_; intro w1 hx1)
            go_wp2_with fail
            go_roundg (l.length - (j + 1))
            case measure => omega
            case rel => exact ⟨j + 1, by omega, by go_num, (by repeat (first | exact Ext.refl _ | assumption | refine Ext.alloc ?_ _ | refine Ext.drew ?_ | refine Ext.drewN ?_ _ | refine Ext.setCell ?_ (by first | (simp; done) | (simp; omega) | omega) _ | refine Ext.trans ?_ (by assumption))), Hhb.out.ext (by repeat (first | exact Ext.refl _ | assumption | refine Ext.alloc ?_ _ | refine Ext.drew ?_ | refine Ext.drewN ?_ _ | refine Ext.setCell ?_ (by first | (simp; done) | (simp; omega) | omega) _ | refine Ext.trans ?_ (by assumption))), stepI_more Hs.out ⟨Hr.out, fun _ => Hp.out⟩⟩
          · have hd : decide (inAt l j ≤ inAt l (j - 1)) = true := decide_eq_true (by omega)
            have Hp := Lib.hid hp
            clear hp
            go_wp2_with fail
            (refine wp_region_onto prog_mixed (by kernel_rfl) ?_; (repeat (go_big_quiet_step ((first | (go_at_call 65; exact onto_callX (spec_l21Count s k n _ (H.out.up (hx.trans (onto_ext _ _))) ⟨by omega, by omega⟩)) | (go_at_call 71; exact onto_callSb Hr1.out (spec_l01In _ _ _ _)))))); refine onto_end ?_; intro w1 hx1)
            go_wp2_with fail
            go_ret
            exact ⟨ret_bool (B_false (fun hh => by have h7 := (hh j hlt).2 h0; have h9 := Hp.out; omega)).symm, (by repeat (first | exact Ext.refl _ | assumption | refine Ext.alloc ?_ _ | refine Ext.drew ?_ | refine Ext.drewN ?_ _ | refine Ext.setCell ?_ (by first | (simp; done) | (simp; omega) | omega) _ | refine Ext.trans ?_ (by assumption)))⟩
        · have hb0' : decide ((0 : Int) < (j : Int)) = false := by simp; omega
          go_wp2_with fail
          (refine wp_region_onto prog_mixed (by kernel_rfl) ?_; (repeat (go_big_quiet_step ((first | (go_at_call 65; exact onto_callX (spec_l21Count s k n _ (H.out.up (hx.trans (onto_ext _ _))) ⟨by omega, by omega⟩)) | (go_at_call 71; exact onto_callSb Hr1.out (spec_l01In _ _ _ _)))))); refine onto_end ?_; intro w1 hx1)
          go_wp2_with fail
          go_roundg (l.length - (j + 1))
          case measure => omega
          case rel => exact ⟨j + 1, by omega, by go_num, (by repeat (first | exact Ext.refl _ | assumption | refine Ext.alloc ?_ _ | refine Ext.drew ?_ | refine Ext.drewN ?_ _ | refine Ext.setCell ?_ (by first | (simp; done) | (simp; omega) | omega) _ | refine Ext.trans ?_ (by assumption))), Hhb.out.ext (by repeat (first | exact Ext.refl _ | assumption | refine Ext.alloc ?_ _ | refine Ext.drew ?_ | refine Ext.drewN ?_ _ | refine Ext.setCell ?_ (by first | (simp; done) | (simp; omega) | omega) _ | refine Ext.trans ?_ (by assumption))), stepI_more Hs.out ⟨Hr.out, fun h => absurd h h0⟩⟩
      · have Hr := Lib.hid hr
        have Hr1 := Lib.hid (B_false hr)
        clear hr
        go_wp2_with fail
        (refine wp_region_onto prog_mixed (by kernel_rfl) ?_; (repeat (go_big_quiet_step ((first | (go_at_call 65; exact onto_callX (spec_l21Count s k n _ (H.out.up (hx.trans (onto_ext _ _))) ⟨by omega, by omega⟩)) | (go_at_call 71; exact onto_callSb Hr1.out (spec_l01In _ _ _ _)))))); refine onto_end ?_; intro w1 hx1)
        go_wp2_with fail
        go_ret
        exact ⟨ret_bool (B_false (fun hh => Hr.out (hh j hlt).1)).symm, (by repeat (first | exact Ext.refl _ | assumption | refine Ext.alloc ?_ _ | refine Ext.drew ?_ | refine Ext.drewN ?_ _ | refine Ext.setCell ?_ (by first | (simp; done) | (simp; omega) | omega) _ | refine Ext.trans ?_ (by assumption)))⟩
    · obtain rfl : j = l.length := by omega
      go_wp2_with fail
      go_ret
      exact ⟨ret_bool (B_true Hs.out).symm, (by repeat (first | exact Ext.refl _ | assumption | refine Ext.alloc ?_ _ | refine Ext.drew ?_ | refine Ext.drewN ?_ _ | refine Ext.setCell ?_ (by first | (simp; done) | (simp; omega) | omega) _ | refine Ext.trans ?_ (by assumption)))⟩
end Go.Proofs.YtfmnkojjkjkdeaaGreatDoor
