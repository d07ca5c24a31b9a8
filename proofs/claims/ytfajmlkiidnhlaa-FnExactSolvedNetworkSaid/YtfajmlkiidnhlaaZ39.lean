/- Texts merged: a claim holds at most sixty files. -/
import Derived.Test.YtfajmlkiidnhlaaZ17
import Derived.Test.YtfajmlkiidnhlaaZ13
import Derived.Test.YtfajmlkiidnhlaaZ14
import Derived.Test.YtfajmlkiidnhlaaZ06
/- Contracts: lists of statements: Contains, Index, their checks. -/
namespace Go.Proofs.Ytfajmlkiidnhlaa
set_option linter.unusedVariables false
set_option linter.unusedSimpArgs false
open Go.RowKit
attribute [local go_sem] cell_onto

set_option maxHeartbeats 1000000 in
theorem slices_Index_ints (v : Value) (l : List Int) (x : Int) (w : World) (h : Ints w 0 w.heap.size v l) : Calls Try.prog 196 #[v, .int .i64 x] w (RetIdx l.length (fun i => inAt l i = x) w) := by
  obtain ⟨A, c, rfl, hn, hc⟩ := h.len
  have H := Lib.hid h
  clear h
  go_enter Try.func196, Try.ntmps196
  go_wp2_with fail
  go_loopg [5, 8] l.length (fun k u i wr => ∃ j : Nat, j + k = l.length ∧ i = .int .i64 j ∧ Ext w wr ∧ ∀ i, i < j → ¬ inAt l i = x)
  case atStart => exact ⟨0, by omega, rfl, Ext.refl _, fun i hi => absurd hi (by omega)⟩
  case round =>
    obtain ⟨j, hj, rfl, hx, hok⟩ := hrel
    have Hok := Lib.hid hok
    clear hok
    by_cases hlt : j < l.length
    · obtain ⟨b, off, rfl, _, hb, h1⟩ := (H.out.ext hx (Nat.le_refl _)).at_ hlt
      by_cases e : inAt l j = x
      · have E := Lib.hid e
        have e1 : (x == inAt l j) = true := by simp [e]
        clear e
        go_wp2_with fail
        go_ret
        exact ⟨j, rfl, (by repeat (first | exact Ext.refl _ | assumption | refine Ext.alloc ?_ _ | refine Ext.drew ?_ | refine Ext.drewN ?_ _ | refine Ext.setCell ?_ (by first | (simp; done) | (simp; omega) | omega) _ | refine Ext.trans ?_ (by assumption))), .inr ⟨by omega, j, hlt, E.out⟩⟩
      · have E := Lib.hid e
        have e1 : (x == inAt l j) = false := by simp; exact fun h => e h.symm
        clear e
        go_wp2_with fail
        go_roundg (l.length - (j + 1))
        case measure => omega
        case rel =>
          refine ⟨j + 1, by omega, by go_num, (by repeat (first | exact Ext.refl _ | assumption | refine Ext.alloc ?_ _ | refine Ext.drew ?_ | refine Ext.drewN ?_ _ | refine Ext.setCell ?_ (by first | (simp; done) | (simp; omega) | omega) _ | refine Ext.trans ?_ (by assumption))), fun i hi => ?_⟩
          by_cases e : i = j
          · rw [e]; exact E.out
          · exact Hok.out i (by omega)
    · obtain rfl : j = l.length := by omega
      go_wp2_with fail
      go_ret
      exact ⟨-1, rfl, (by repeat (first | exact Ext.refl _ | assumption | refine Ext.alloc ?_ _ | refine Ext.drew ?_ | refine Ext.drewN ?_ _ | refine Ext.setCell ?_ (by first | (simp; done) | (simp; omega) | omega) _ | refine Ext.trans ?_ (by assumption))), .inl ⟨rfl, Hok.out⟩⟩
set_option maxHeartbeats 1000000 in
theorem slices_Contains_ints (v : Value) (l : List Int) (x : Int) (w : World) (h : Ints w 0 w.heap.size v l) : Calls Try.prog 132 #[v, .int .i64 x] w (RetX (.bool (B (HasI l x))) w) := by
  have H := Lib.hid (slices_Index_ints v l x w h)
  clear h
  go_enter Try.func132, Try.ntmps132
  go_wp2_with fail
  refine H.out.mono ?_
  rintro e w1 ⟨r, rfl, hx, hr⟩
  have Hr := Lib.hid hr
  clear hr
  go_wp2_with fail
  go_ret
  refine ⟨ret_bool (B_eq ?_), (by repeat (first | exact Ext.refl _ | assumption | refine Ext.alloc ?_ _ | refine Ext.drew ?_ | refine Ext.drewN ?_ _ | refine Ext.setCell ?_ (by first | (simp; done) | (simp; omega) | omega) _ | refine Ext.trans ?_ (by assumption)))⟩
  simp only [decide_eq_true_eq]
  constructor
  · intro h
    rcases Hr.out with ⟨h1, _⟩ | ⟨_, h2⟩
    · omega
    · exact h2
  · rintro ⟨i, h1, h2⟩
    rcases Hr.out with ⟨_, h3⟩ | ⟨h3, _⟩
    · exact absurd h2 (h3 i h1)
    · omega

set_option maxHeartbeats 1000000 in
theorem spec_l01Has (v : Value) (l : List Int) (x : Int) (w : World) (h : Ints w 0 w.heap.size v l) : Calls Try.prog 197 #[v, .int .i64 x] w (RetX (.bool (B (HasI l x))) w) := by
  obtain ⟨A, c, rfl, hn, hc⟩ := h.len
  have H := Lib.hid h
  clear h
  go_enter Try.func197, Try.ntmps197
  go_wp2_with fail
  go_loopg [5] l.length (fun k i wr => ∃ j : Nat, j + k = l.length ∧ i = .int .i64 j ∧ Ext w wr ∧ ∀ i, i < j → ¬ inAt l i = x)
  case atStart => exact ⟨0, by omega, rfl, Ext.refl _, fun i hi => absurd hi (by omega)⟩
  case round =>
    obtain ⟨j, hj, rfl, hx, hok⟩ := hrel
    have Hok := Lib.hid hok
    clear hok
    by_cases hlt : j < l.length
    · obtain ⟨b, off, rfl, _, hb, h1⟩ := (H.out.ext hx (Nat.le_refl _)).at_ hlt
      by_cases e : inAt l j = x
      · have E := Lib.hid e
        have e1 : (inAt l j == x) = true := by simp [e]
        clear e
        go_wp2_with fail
        go_ret
        exact ⟨ret_bool (B_true ⟨j, hlt, E.out⟩).symm, (by repeat (first | exact Ext.refl _ | assumption | refine Ext.alloc ?_ _ | refine Ext.drew ?_ | refine Ext.drewN ?_ _ | refine Ext.setCell ?_ (by first | (simp; done) | (simp; omega) | omega) _ | refine Ext.trans ?_ (by assumption)))⟩
      · have E := Lib.hid e
        have e1 : (inAt l j == x) = false := by simp [e]
        clear e
        go_wp2_with fail
        go_roundg (l.length - (j + 1))
        case measure => omega
        case rel =>
          refine ⟨j + 1, by omega, by go_num, (by repeat (first | exact Ext.refl _ | assumption | refine Ext.alloc ?_ _ | refine Ext.drew ?_ | refine Ext.drewN ?_ _ | refine Ext.setCell ?_ (by first | (simp; done) | (simp; omega) | omega) _ | refine Ext.trans ?_ (by assumption))), fun i hi => ?_⟩
          by_cases e : i = j
          · rw [e]; exact E.out
          · exact Hok.out i (by omega)
    · obtain rfl : j = l.length := by omega
      go_wp2_with fail
      go_ret
      exact ⟨ret_bool (B_false (fun ⟨i, hi, he⟩ => Hok.out i hi he)).symm, (by repeat (first | exact Ext.refl _ | assumption | refine Ext.alloc ?_ _ | refine Ext.drew ?_ | refine Ext.drewN ?_ _ | refine Ext.setCell ?_ (by first | (simp; done) | (simp; omega) | omega) _ | refine Ext.trans ?_ (by assumption)))⟩

def StepI (n : Net) (l : List Int) (i : Nat) : Prop := (0 ≤ inAt l i ∧ inAt l i ≤ (n.sets.length : Int) + n.links.length - 1) ∧ (0 < i → inAt l (i - 1) < inAt l i)
theorem stepI_more {n : Net} {l : List Int} {j : Nat} (h : ∀ i, i < j → StepI n l i) (h' : StepI n l j) : ∀ i, i < j + 1 → StepI n l i := by
  intro i hi
  by_cases e : i = j
  · subst e; exact h'
  · exact h i (by omega)

set_option maxRecDepth 100000 in
set_option maxHeartbeats 2000000 in
theorem impl_checkStatements (s k v : Value) (n : Net) (l : List Int) (w : World) (h : NetIn w s k n) (hl : Ints w 0 w.heap.size v l) :
    Calls Try.prog 129 #[.agg #[s, k], v] w (RetX (.int .i64 (stmE n l)) w) := by
  obtain ⟨A, c, rfl, hn, hc⟩ := hl.len
  have H := Lib.hid h
  have Hl := Lib.hid hl
  clear h hl
  go_enter Try.func129, Try.ntmps129
  go_wp2_with fail
  refine Calls.mono (impl_IsNetwork s k n _ (H.out.up (by repeat (first | exact Ext.refl _ | assumption | refine Ext.alloc ?_ _ | refine Ext.drew ?_ | refine Ext.drewN ?_ _ | refine Ext.setCell ?_ (by first | (simp; done) | (simp; omega) | omega) _ | refine Ext.trans ?_ (by assumption))))) ?_
  rintro e w1 ⟨rfl, hx1⟩
  have hx : Ext w w1 := (by repeat (first | exact Ext.refl _ | assumption | refine Ext.alloc ?_ _ | refine Ext.drew ?_ | refine Ext.drewN ?_ _ | refine Ext.setCell ?_ (by first | (simp; done) | (simp; omega) | omega) _ | refine Ext.trans ?_ (by assumption)))
  by_cases hok : NetOk n
  · have Hok := Lib.hid hok
    have hq := B_true hok
    rw [hq]
    clear hq hok
    have h8 := Hok.out.1
    have h20 := Hok.out.2.1
    have hb := (Boxed.new w [s, k] 27).ext hx1; have hb0 := hb.at0; have hb1 := hb.at1; have hbg := hb.1; have Hhb := Lib.hid hb; clear hb
    clear hx1
    go_wp2_with fail
    go_loopg [5, 6, 12] l.length (fun q u u' i wr => ∃ j : Nat, j + q = l.length ∧ i = .int .i64 j ∧ Ext w wr ∧ Boxed wr w.heap.size [s, k] ∧ ∀ i, i < j → StepI n l i)
    case atStart => exact ⟨0, by omega, rfl, hx, Hhb.out, fun i hi => absurd hi (by omega)⟩
    clear hb0 hb1 hbg Hhb hx
    case round =>
      obtain ⟨j, hj, rfl, hx, hbb, hok⟩ := hrel
      have Hs := Lib.hid hok
      clear hok
      have hb := hbb; have hb0 := hb.at0; have hb1 := hb.at1; have hbg := hb.1; have Hhb := Lib.hid hb; clear hb
      clear hbb
      by_cases hlt : j < l.length
      · obtain ⟨b, off, rfl, _, hb, h1⟩ := (Hl.out.ext hx (Nat.le_refl _)).at_ hlt
        have hbr : b < wr.heap.size := Nat.lt_of_lt_of_le hb hx.size
        go_wp2_with fail
        refine Calls.mono (impl_statementsOf s k n _ (H.out.up hx) ⟨by omega, by omega⟩) ?_
        rintro e w2 ⟨rfl, hx2⟩
        have hxx : Ext w w2 := hx.trans hx2
        have Hbb := Lib.hid (Hhb.out.ext hx2)
        obtain ⟨b', off', e', _, _, h1'⟩ := (Hl.out.ext hxx (Nat.le_refl _)).at_ hlt
        injection e' with e'
        injection e' with e1 e2
        subst e1 e2
        clear h1 hb0 hb1 hbg Hhb hx hbr
        have hbr : b < w2.heap.size := Nat.lt_of_lt_of_le hb hxx.size
        have hb := Hbb.out; have hb0 := hb.at0; have hb1 := hb.at1; have hbg := hb.1; have Hhb := Lib.hid hb; clear hb
        go_wp2_with fail
        refine Calls.mono (impl_within (inAt l j) 0 ((n.sets.length : Int) + n.links.length - 1) _) ?_
        rintro e w' ⟨rfl, rfl⟩
        by_cases hr : 0 ≤ inAt l j ∧ inAt l j ≤ (n.sets.length : Int) + n.links.length - 1
        · have Hr := Lib.hid hr
          have hq := B_true hr
          rw [hq]
          clear hq hr
          by_cases h0 : 0 < j
          · have hb0' : decide ((0 : Int) < (j : Int)) = true := by simp; omega
            obtain ⟨b3, off3, e3, _, _, h3⟩ := (Hl.out.ext hxx (Nat.le_refl _)).at_ (i := j - 1) (by omega)
            injection e3 with e3
            injection e3 with e31 e32
            subst e31 e32
            by_cases hp : inAt l (j - 1) < inAt l j
            · have hd : decide (inAt l j ≤ inAt l (j - 1)) = false := decide_eq_false (by omega)
              have Hp := Lib.hid hp
              clear hp
              go_wp2_with fail
              go_roundg (l.length - (j + 1))
              case measure => omega
              case rel => exact ⟨j + 1, by omega, by go_num, hxx, Hhb.out, stepI_more Hs.out ⟨Hr.out, fun _ => Hp.out⟩⟩
            · have hd : decide (inAt l j ≤ inAt l (j - 1)) = true := decide_eq_true (by omega)
              have Hp := Lib.hid hp
              clear hp
              go_wp2_with fail
              go_ret
              exact ⟨by rw [stm_bad Hok.out (fun hh => by have h7 := (hh j hlt).2 h0; have h9 := Hp.out; omega)]; rfl, (by repeat (first | exact Ext.refl _ | assumption | refine Ext.alloc ?_ _ | refine Ext.drew ?_ | refine Ext.drewN ?_ _ | refine Ext.setCell ?_ (by first | (simp; done) | (simp; omega) | omega) _ | refine Ext.trans ?_ (by assumption)))⟩
          · have hb0' : decide ((0 : Int) < (j : Int)) = false := by simp; omega
            go_wp2_with fail
            go_roundg (l.length - (j + 1))
            case measure => omega
            case rel => exact ⟨j + 1, by omega, by go_num, hxx, Hhb.out, stepI_more Hs.out ⟨Hr.out, fun h => absurd h h0⟩⟩
        · have Hr := Lib.hid hr
          have hq := B_false hr
          rw [hq]
          clear hq hr
          go_wp2_with fail
          go_ret
          exact ⟨by rw [stm_bad Hok.out (fun hh => Hr.out (hh j hlt).1)]; rfl, (by repeat (first | exact Ext.refl _ | assumption | refine Ext.alloc ?_ _ | refine Ext.drew ?_ | refine Ext.drewN ?_ _ | refine Ext.setCell ?_ (by first | (simp; done) | (simp; omega) | omega) _ | refine Ext.trans ?_ (by assumption)))⟩
      · obtain rfl : j = l.length := by omega
        go_wp2_with fail
        go_ret
        exact ⟨by rw [stm_ok Hok.out Hs.out]; rfl, (by repeat (first | exact Ext.refl _ | assumption | refine Ext.alloc ?_ _ | refine Ext.drew ?_ | refine Ext.drewN ?_ _ | refine Ext.setCell ?_ (by first | (simp; done) | (simp; omega) | omega) _ | refine Ext.trans ?_ (by assumption)))⟩
  · have Hok := Lib.hid hok
    have hq := B_false hok
    rw [hq]
    clear hq hok
    go_wp2_with fail
    go_ret
    exact ⟨by rw [stm_net Hok.out]; rfl, (by repeat (first | exact Ext.refl _ | assumption | refine Ext.alloc ?_ _ | refine Ext.drew ?_ | refine Ext.drewN ?_ _ | refine Ext.setCell ?_ (by first | (simp; done) | (simp; omega) | omega) _ | refine Ext.trans ?_ (by assumption)))⟩

set_option maxRecDepth 100000 in
set_option maxHeartbeats 2000000 in
theorem spec_l21List (s k v : Value) (n : Net) (l : List Int) (w : World) (h : NetIn w s k n) (hl : Ints w 0 w.heap.size v l) (hok : NetOk n) :
    Calls Try.prog 133 #[.agg #[s, k], v] w (RetX (.bool (B (StmOk n l))) w) := by
  obtain ⟨A, c, rfl, hn, hc⟩ := hl.len
  have H := Lib.hid h
  have Hl := Lib.hid hl
  have Hok := Lib.hid hok
  have h8 := hok.1
  have h20 := hok.2.1
  clear h hl hok
  go_enter Try.func133, Try.ntmps133
  have hb := Boxed.new w [s, k] 27; have hb0 := hb.at0; have hb1 := hb.at1; have hbg := hb.1; have Hhb := Lib.hid hb; clear hb
  go_wp2_with fail
  go_loopg [5] l.length (fun q i wr => ∃ j : Nat, j + q = l.length ∧ i = .int .i64 j ∧ Ext w wr ∧ Boxed wr w.heap.size [s, k] ∧ ∀ i, i < j → StepI n l i)
  case atStart => exact ⟨0, by omega, rfl, (by repeat (first | exact Ext.refl _ | assumption | refine Ext.alloc ?_ _ | refine Ext.drew ?_ | refine Ext.drewN ?_ _ | refine Ext.setCell ?_ (by first | (simp; done) | (simp; omega) | omega) _ | refine Ext.trans ?_ (by assumption))), Hhb.out, fun i hi => absurd hi (by omega)⟩
  clear hb0 hb1 hbg Hhb
  case round =>
    obtain ⟨j, hj, rfl, hx, hbb, hok⟩ := hrel
    have Hs := Lib.hid hok
    clear hok
    have hb := hbb; have hb0 := hb.at0; have hb1 := hb.at1; have hbg := hb.1; have Hhb := Lib.hid hb; clear hb
    clear hbb
    by_cases hlt : j < l.length
    · obtain ⟨b, off, rfl, _, hb, h1⟩ := (Hl.out.ext hx (Nat.le_refl _)).at_ hlt
      have hbr : b < wr.heap.size := Nat.lt_of_lt_of_le hb hx.size
      have hjl : (j : Int) < (l.length : Int) := by omega
      by_cases hr : 0 ≤ inAt l j ∧ inAt l j ≤ (n.sets.length : Int) + n.links.length - 1
      · have Hr := Lib.hid hr
        have Hr1 := Lib.hid (B_true hr)
        clear hr
        by_cases h0 : 0 < j
        · have hb0' : decide ((0 : Int) < (j : Int)) = true := by simp; omega
          obtain ⟨b3, off3, e3, _, _, h3⟩ := (Hl.out.ext hx (Nat.le_refl _)).at_ (i := j - 1) (by omega)
          injection e3 with e3
          injection e3 with e31 e32
          subst e31 e32
          by_cases hp : inAt l (j - 1) < inAt l j
          · have hd : decide (inAt l j ≤ inAt l (j - 1)) = false := decide_eq_false (by omega)
            have Hp := Lib.hid hp
            clear hp
            go_wp2_with fail
            (refine wp_region_onto prog_mixed (by kernel_rfl) ?_; (repeat (go_big_quiet_step ((first | (go_at_call 136; exact onto_callX (spec_l21Count s k n _ (H.out.up (hx.trans (onto_ext _ _))) ⟨by omega, by omega⟩)) | (go_at_call 98; exact onto_callSb Hr1.out (spec_l01In _ _ _ _)))))); refine onto_end ?_; intro w1 hx1)
            go_wp2_with fail
            go_roundg (l.length - (j + 1))
            case measure => omega
            case rel => exact ⟨j + 1, by omega, by go_num, (by repeat (first | exact Ext.refl _ | assumption | refine Ext.alloc ?_ _ | refine Ext.drew ?_ | refine Ext.drewN ?_ _ | refine Ext.setCell ?_ (by first | (simp; done) | (simp; omega) | omega) _ | refine Ext.trans ?_ (by assumption))), Hhb.out.ext (by repeat (first | exact Ext.refl _ | assumption | refine Ext.alloc ?_ _ | refine Ext.drew ?_ | refine Ext.drewN ?_ _ | refine Ext.setCell ?_ (by first | (simp; done) | (simp; omega) | omega) _ | refine Ext.trans ?_ (by assumption))), stepI_more Hs.out ⟨Hr.out, fun _ => Hp.out⟩⟩
          · have hd : decide (inAt l j ≤ inAt l (j - 1)) = true := decide_eq_true (by omega)
            have Hp := Lib.hid hp
            clear hp
            go_wp2_with fail
            (refine wp_region_onto prog_mixed (by kernel_rfl) ?_; (repeat (go_big_quiet_step ((first | (go_at_call 136; exact onto_callX (spec_l21Count s k n _ (H.out.up (hx.trans (onto_ext _ _))) ⟨by omega, by omega⟩)) | (go_at_call 98; exact onto_callSb Hr1.out (spec_l01In _ _ _ _)))))); refine onto_end ?_; intro w1 hx1)
            go_wp2_with fail
            go_ret
            exact ⟨ret_bool (B_false (fun hh => by have h7 := (hh j hlt).2 h0; have h9 := Hp.out; omega)).symm, (by repeat (first | exact Ext.refl _ | assumption | refine Ext.alloc ?_ _ | refine Ext.drew ?_ | refine Ext.drewN ?_ _ | refine Ext.setCell ?_ (by first | (simp; done) | (simp; omega) | omega) _ | refine Ext.trans ?_ (by assumption)))⟩
        · have hb0' : decide ((0 : Int) < (j : Int)) = false := by simp; omega
          go_wp2_with fail
          (refine wp_region_onto prog_mixed (by kernel_rfl) ?_; (repeat (go_big_quiet_step ((first | (go_at_call 136; exact onto_callX (spec_l21Count s k n _ (H.out.up (hx.trans (onto_ext _ _))) ⟨by omega, by omega⟩)) | (go_at_call 98; exact onto_callSb Hr1.out (spec_l01In _ _ _ _)))))); refine onto_end ?_; intro w1 hx1)
          go_wp2_with fail
          go_roundg (l.length - (j + 1))
          case measure => omega
          case rel => exact ⟨j + 1, by omega, by go_num, (by repeat (first | exact Ext.refl _ | assumption | refine Ext.alloc ?_ _ | refine Ext.drew ?_ | refine Ext.drewN ?_ _ | refine Ext.setCell ?_ (by first | (simp; done) | (simp; omega) | omega) _ | refine Ext.trans ?_ (by assumption))), Hhb.out.ext (by repeat (first | exact Ext.refl _ | assumption | refine Ext.alloc ?_ _ | refine Ext.drew ?_ | refine Ext.drewN ?_ _ | refine Ext.setCell ?_ (by first | (simp; done) | (simp; omega) | omega) _ | refine Ext.trans ?_ (by assumption))), stepI_more Hs.out ⟨Hr.out, fun h => absurd h h0⟩⟩
      · have Hr := Lib.hid hr
        have Hr1 := Lib.hid (B_false hr)
        clear hr
        go_wp2_with fail
        (refine wp_region_onto prog_mixed (by kernel_rfl) ?_; (repeat (go_big_quiet_step ((first | (go_at_call 136; exact onto_callX (spec_l21Count s k n _ (H.out.up (hx.trans (onto_ext _ _))) ⟨by omega, by omega⟩)) | (go_at_call 98; exact onto_callSb Hr1.out (spec_l01In _ _ _ _)))))); refine onto_end ?_; intro w1 hx1)
        go_wp2_with fail
        go_ret
        exact ⟨ret_bool (B_false (fun hh => Hr.out (hh j hlt).1)).symm, (by repeat (first | exact Ext.refl _ | assumption | refine Ext.alloc ?_ _ | refine Ext.drew ?_ | refine Ext.drewN ?_ _ | refine Ext.setCell ?_ (by first | (simp; done) | (simp; omega) | omega) _ | refine Ext.trans ?_ (by assumption)))⟩
    · obtain rfl : j = l.length := by omega
      go_wp2_with fail
      go_ret
      exact ⟨ret_bool (B_true Hs.out).symm, (by repeat (first | exact Ext.refl _ | assumption | refine Ext.alloc ?_ _ | refine Ext.drew ?_ | refine Ext.drewN ?_ _ | refine Ext.setCell ?_ (by first | (simp; done) | (simp; omega) | omega) _ | refine Ext.trans ?_ (by assumption)))⟩
end Go.Proofs.Ytfajmlkiidnhlaa

/- Contracts: networks in which statements are given up. -/
namespace Go.Proofs.Ytfajmlkiidnhlaa
set_option linter.unusedVariables false
set_option linter.unusedSimpArgs false
open Go.RowKit
attribute [local go_sem] cell_onto

theorem setLen {n : Net} (h : NetOk n) {j : Nat} (hj : j < n.sets.length) : (setAt n.sets j).length ≤ 1048576 := by have := (h.2.2.1 j hj).1; omega
theorem lk_cells (l : Lk) : ∀ i, i < 4 → [Value.int .i64 l.be, .int .i64 l.af, .int .i64 l.le, .int .i64 l.mo][i]? = some (linkCell [l] i)
  | 0, _ => rfl
  | 1, _ => rfl
  | 2, _ => rfl
  | 3, _ => rfl
  | i + 4, h => absurd h (by omega)

set_option maxRecDepth 100000 in
set_option maxHeartbeats 8000000 in
theorem impl_giveUp (s k : Value) (n : Net) (g : Nat) (caps : Array Value) (is : Nat → Prop) (w : World) (h : NetIn w s k n) (hok : NetOk n)
    (hg : ∀ (args : Array Value) (w : World), (callFunc g args).run Try.prog w = .ok (.enter g args) w)
    (hf : ∀ (i : Nat) (w' : World), i < n.sets.length + n.links.length → Ext w w' → Calls Try.prog g (#[.int .i64 i] ++ caps) w' (RetX (.bool (B (is i))) w')) :
    Calls Try.prog 130 #[.agg #[s, k], .func (.func g) #[] caps] w (NewNet (giveN is n) w) := by
  obtain ⟨As, cs, rfl, hns, hcs⟩ := h.1.len
  obtain ⟨Ak, ck, rfl, hnk, hck⟩ := h.2.len
  have H := Lib.hid h
  have Hok := Lib.hid hok
  have h8 := hok.1
  have h20 := hok.2.1
  have Hf2 : Hid (∀ (j : Nat) (w' : World), j < n.links.length → Ext w w' → Calls Try.prog g (#[.int .i64 ((n.sets.length : Int) + (j : Int))] ++ caps) w' (RetX (.bool (B (is (n.sets.length + j)))) w')) :=
    Lib.hid (fun j w' hj hx => by have := hf (n.sets.length + j) w' (by omega) hx; rwa [Int.natCast_add] at this)
  have Hf := Lib.hid hf
  clear h hok hf
  go_enter Try.func130, Try.ntmps130
  go_wp2_with fail
  go_loopg [6, 7, 14] n.sets.length (fun q u6 u7 i wr => ∃ (j : Nat) (sv : Value), j + q = n.sets.length ∧ i = .int .i64 j ∧ OwnSt 60 42 w (w.heap.size + 1 + 1) (.slice As n.sets.length cs) (.slice Ak n.links.length ck) (.slice none 0 0) noNet (gvS is n.sets j) sv wr)
  case atStart =>
    refine ⟨0, .slice none 0 0, by omega, rfl, (by repeat (first | exact Ext.refl _ | assumption | refine Ext.alloc ?_ _ | refine Ext.drew ?_ | refine Ext.drewN ?_ _ | refine Ext.setCell ?_ (by first | (simp; done) | (simp; omega) | omega) _ | refine Ext.trans ?_ (by assumption))), (Boxed.new w [.slice As n.sets.length cs, .slice Ak n.links.length ck] 27).ext (by repeat (first | exact Ext.refl _ | assumption | refine Ext.alloc ?_ _ | refine Ext.drew ?_ | refine Ext.drewN ?_ _ | refine Ext.setCell ?_ (by first | (simp; done) | (simp; omega) | omega) _ | refine Ext.trans ?_ (by assumption))), ?_, ?_, by omega, ?_, (fun g hg => by cases hg), SetsBy.nil _ _ _⟩
    · have := (Boxed.new (w.alloc (.cells #[.slice As n.sets.length cs, .slice Ak n.links.length ck] 27)) [.slice none 0 0, .slice none 0 0] 27).ext ((Ext.refl _).alloc (.cells #[.slice none 0 0, .slice none 0 0] 27))
      rw [World.size_alloc] at this
      exact this
    · have := Boxed.new ((w.alloc (.cells #[.slice As n.sets.length cs, .slice Ak n.links.length ck] 27)).alloc (.cells #[.slice none 0 0, .slice none 0 0] 27)) [.slice none 0 0, .slice none 0 0] 27
      rw [World.size_alloc, World.size_alloc] at this
      exact this
    · simpa [cellsOf, noNet] using World.ownsRow_nil _ (w.heap.size + 2) 60 4
  case round =>
    obtain ⟨j, sv, hj, rfl, hx, hbb, hrb, hob, hgo, hk, hkg, f, hsf⟩ := hrel
    have Hkg := Lib.hid hkg
    clear hkg
    have hlt0 : (gvS is n.sets j).length ≤ 1048576 := by rw [gvS_len]; omega
    by_cases hlt : j < n.sets.length
    · obtain ⟨b, off, u, rfl, _, hb, h1, h2⟩ := (H.out.1.ext hx (Nat.le_refl _)).at_ hlt
      have H2 := Lib.hid h2
      have Hbb := Lib.hid hbb
      have Hrbb := Lib.hid hrb
      have Hobb := Lib.hid hob
      have Hkk := Lib.hid hk
      have Hsff := Lib.hid hsf
      have hwr := hx.size
      clear h2 hbb hrb hob hk hsf
      go_wp2_with fail
      refine Calls.mono (Hf.out j wr (by omega) hx) ?_
      rintro e w1 ⟨rfl, hx1⟩
      have hxw : Ext w w1 := hx.trans hx1
      have hw1 := hx1.size
      have hb := Hbb.out.ext hx1; have hb0 := hb.at0; have hb1 := hb.at1; have hbg := hb.1; have Hhb := Lib.hid hb; clear hb
      have Hrb := Lib.hid (Hrbb.out.ext hx1)
      have Hob1 := Lib.hid (Hobb.out.ext hx1)
      have Hk1 := Lib.hid (row_ext Hkk.out hx1)
      have Hsf1 := Lib.hid (Hsff.out.ext hx1)
      have hz := Hob1.out.1
      have ho0 := Hob1.out.at0
      have ho0f := Hob1.out.fz 0 (by simp)
      have H21 := Lib.hid (H2.out.ext hx1 hwr)
      have hw1w : w.heap.size ≤ w1.heap.size := hxw.size
      clear Hbb Hrbb Hobb Hkk Hsff H2 h1
      by_cases hi : is j
      · have Hi := Lib.hid hi
        have hq := B_true hi
        rw [hq]
        clear hq hi
        have Hlen := Lib.hid (show allDays.length ≤ 1048576 by decide)
        have Hsp : Hid (Spans (w1.alloc (.cells #[.int .i64 0, .int .i64 730499] 129)) 0 (w1.alloc (.cells #[.int .i64 0, .int .i64 730499] 129)).heap.size (.slice (some ⟨w1.heap.size, 0, none⟩) 1 1) allDays) := Lib.hid ((Boxed.new w1 [.int .i64 0, .int .i64 730499] 129).row rfl (span_cells 0 730499))
        go_wp2_with fail
        go_region_law (first
            | (refine step_append_row rfl (.tmp 25) (.tmp 28) 24 rfl (w.heap.size + 1 + 1 + 1) 42 1 24 Try.underlying24 (by kernel_rfl) (by omega) sv (gvS is n.sets j).length 1 _ rfl (Hsf1.out.ext (by repeat (first | exact Ext.refl _ | assumption | refine Ext.alloc ?_ _ | refine Ext.drew ?_ | refine Ext.drewN ?_ _ | refine Ext.setCell ?_ (by first | (simp; done) | (simp; omega) | omega) _ | refine Ext.trans ?_ (by assumption)))).1 (.inr (by omega)) 0 _ _ (fun _ => .slice Au (allDays).length cu) rfl ((Boxed.new w2 [.slice Au (allDays).length cu] 42).row1) (fun _ _ => rfl) (by unfold maxLen; omega) (by omega) (by have := hx2.size; simp at this ⊢; omega) ?_; intro v3 w3 hown3 hput3; obtain ⟨Av3, cv3, rfl⟩ := ownsRow_len hown3; have hob3 : Boxed w3 (w.heap.size + 1 + 1) [sv, .slice none 0 0] := Boxed.off (Hob1.out.ext (by repeat (first | exact Ext.refl _ | assumption | refine Ext.alloc ?_ _ | refine Ext.drew ?_ | refine Ext.drewN ?_ _ | refine Ext.setCell ?_ (by first | (simp; done) | (simp; omega) | omega) _ | refine Ext.trans ?_ (by assumption)))) hput3.1 (fun hh => by have := hh.1; omega); have ho3 := hob3.at0; have ho3f := hob3.fz 0 (by simp); clear hob3)
            | (go_simp; go_at_call 192; refine Calls.mono (slices_Clone_spans _ (allDays) _ (Hsp.out.up (by repeat (first | exact Ext.refl _ | assumption | refine Ext.alloc ?_ _ | refine Ext.drew ?_ | refine Ext.drewN ?_ _ | refine Ext.setCell ?_ (by first | (simp; done) | (simp; omega) | omega) _ | refine Ext.trans ?_ (by assumption)))) Hlen.out) ?_; rintro e w2 ⟨uv, rfl, hx2, hu⟩; obtain ⟨Au, cu, rfl⟩ := ownsRow_len hu; have ho2 := (Hob1.out.ext (show Ext w1 w2 from (by repeat (first | exact Ext.refl _ | assumption | refine Ext.alloc ?_ _ | refine Ext.drew ?_ | refine Ext.drewN ?_ _ | refine Ext.setCell ?_ (by first | (simp; done) | (simp; omega) | omega) _ | refine Ext.trans ?_ (by assumption))))).at0; have ho2a := (Hob1.out.ext (show Ext w1 (w2.alloc (.cells #[.slice Au (allDays).length cu] 42)) from (by repeat (first | exact Ext.refl _ | assumption | refine Ext.alloc ?_ _ | refine Ext.drew ?_ | refine Ext.drewN ?_ _ | refine Ext.setCell ?_ (by first | (simp; done) | (simp; omega) | omega) _ | refine Ext.trans ?_ (by assumption))))).at0))
        all_goals
          have Hst := Lib.hid (OwnSt.push (s := allDays) hxw Hhb.out Hrb.out Hob1.out hgo Hk1.out Hkg.out Hsf1.out (show Ext w1 (w2.alloc (.cells #[.slice Au (allDays).length cu] 42)) from (by repeat (first | exact Ext.refl _ | assumption | refine Ext.alloc ?_ _ | refine Ext.drew ?_ | refine Ext.drewN ?_ _ | refine Ext.setCell ?_ (by first | (simp; done) | (simp; omega) | omega) _ | refine Ext.trans ?_ (by assumption)))) (row_ext hu ((Ext.refl _).alloc _)) (Ext.size (by repeat (first | exact Ext.refl _ | assumption | refine Ext.alloc ?_ _ | refine Ext.drew ?_ | refine Ext.drewN ?_ _ | refine Ext.setCell ?_ (by first | (simp; done) | (simp; omega) | omega) _ | refine Ext.trans ?_ (by assumption)))) hput3 hown3)
          clear hown3 hput3 hu ho3 ho3f ho2 ho2a hb0 hb1 hbg ho0 ho0f
          go_wp2_with fail
          go_roundg (n.sets.length - (j + 1))
          case measure => omega
          case rel => exact ⟨j + 1, _, by omega, by go_num, by rw [gvS_yes Hi.out]; exact Hst.out⟩
      · have Hi := Lib.hid hi
        have hq := B_false hi
        rw [hq]
        clear hq hi
        have Hlen := Lib.hid (setLen Hok.out hlt)
        go_wp2_with fail
        go_region_law (first
            | (refine step_append_row rfl (.tmp 25) (.tmp 28) 24 rfl (w.heap.size + 1 + 1 + 1) 42 1 24 Try.underlying24 (by kernel_rfl) (by omega) sv (gvS is n.sets j).length 1 _ rfl (Hsf1.out.ext (by repeat (first | exact Ext.refl _ | assumption | refine Ext.alloc ?_ _ | refine Ext.drew ?_ | refine Ext.drewN ?_ _ | refine Ext.setCell ?_ (by first | (simp; done) | (simp; omega) | omega) _ | refine Ext.trans ?_ (by assumption)))).1 (.inr (by omega)) 0 _ _ (fun _ => .slice Au (setAt n.sets j).length cu) rfl ((Boxed.new w2 [.slice Au (setAt n.sets j).length cu] 42).row1) (fun _ _ => rfl) (by unfold maxLen; omega) (by omega) (by have := hx2.size; simp at this ⊢; omega) ?_; intro v3 w3 hown3 hput3; obtain ⟨Av3, cv3, rfl⟩ := ownsRow_len hown3; have hob3 : Boxed w3 (w.heap.size + 1 + 1) [sv, .slice none 0 0] := Boxed.off (Hob1.out.ext (by repeat (first | exact Ext.refl _ | assumption | refine Ext.alloc ?_ _ | refine Ext.drew ?_ | refine Ext.drewN ?_ _ | refine Ext.setCell ?_ (by first | (simp; done) | (simp; omega) | omega) _ | refine Ext.trans ?_ (by assumption)))) hput3.1 (fun hh => by have := hh.1; omega); have ho3 := hob3.at0; have ho3f := hob3.fz 0 (by simp); clear hob3)
            | (go_simp; go_at_call 192; refine Calls.mono (slices_Clone_spans _ (setAt n.sets j) _ (H21.out.upAt hw1w (by repeat (first | exact Ext.refl _ | assumption | refine Ext.alloc ?_ _ | refine Ext.drew ?_ | refine Ext.drewN ?_ _ | refine Ext.setCell ?_ (by first | (simp; done) | (simp; omega) | omega) _ | refine Ext.trans ?_ (by assumption)))) Hlen.out) ?_; rintro e w2 ⟨uv, rfl, hx2, hu⟩; obtain ⟨Au, cu, rfl⟩ := ownsRow_len hu; have ho2 := (Hob1.out.ext (show Ext w1 w2 from (by repeat (first | exact Ext.refl _ | assumption | refine Ext.alloc ?_ _ | refine Ext.drew ?_ | refine Ext.drewN ?_ _ | refine Ext.setCell ?_ (by first | (simp; done) | (simp; omega) | omega) _ | refine Ext.trans ?_ (by assumption))))).at0; have ho2a := (Hob1.out.ext (show Ext w1 (w2.alloc (.cells #[.slice Au (setAt n.sets j).length cu] 42)) from (by repeat (first | exact Ext.refl _ | assumption | refine Ext.alloc ?_ _ | refine Ext.drew ?_ | refine Ext.drewN ?_ _ | refine Ext.setCell ?_ (by first | (simp; done) | (simp; omega) | omega) _ | refine Ext.trans ?_ (by assumption))))).at0))
        all_goals
          have Hst := Lib.hid (OwnSt.push (s := setAt n.sets j) hxw Hhb.out Hrb.out Hob1.out hgo Hk1.out Hkg.out Hsf1.out (show Ext w1 (w2.alloc (.cells #[.slice Au (setAt n.sets j).length cu] 42)) from (by repeat (first | exact Ext.refl _ | assumption | refine Ext.alloc ?_ _ | refine Ext.drew ?_ | refine Ext.drewN ?_ _ | refine Ext.setCell ?_ (by first | (simp; done) | (simp; omega) | omega) _ | refine Ext.trans ?_ (by assumption)))) (row_ext hu ((Ext.refl _).alloc _)) (Ext.size (by repeat (first | exact Ext.refl _ | assumption | refine Ext.alloc ?_ _ | refine Ext.drew ?_ | refine Ext.drewN ?_ _ | refine Ext.setCell ?_ (by first | (simp; done) | (simp; omega) | omega) _ | refine Ext.trans ?_ (by assumption)))) hput3 hown3)
          clear hown3 hput3 hu ho3 ho3f ho2 ho2a hb0 hb1 hbg ho0 ho0f
          go_wp2_with fail
          go_roundg (n.sets.length - (j + 1))
          case measure => omega
          case rel => exact ⟨j + 1, _, by omega, by go_num, by rw [gvS_no Hi.out]; exact Hst.out⟩
    · obtain rfl : j = n.sets.length := by omega
      have hst := GvSt.start (TL := 60) (TS := 42) (sets := gvS is n.sets n.sets.length) (show OwnSt 60 42 w (w.heap.size + 1 + 1) (.slice As n.sets.length cs) (.slice Ak n.links.length ck) (.slice none 0 0) noNet (gvS is n.sets n.sets.length) sv wr from ⟨hx, hbb, hrb, hob, hgo, hk, Hkg.out, f, hsf⟩) ⟨_, rfl⟩
      obtain ⟨As2, cs2, rfl⟩ := hsf.1.len
      have Hst := Lib.hid hst
      have hb := hbb; have hb0 := hb.at0; have hb1 := hb.at1; have hbg := hb.1; have Hhb := Lib.hid hb; clear hb
      clear hbb hrb hob hk Hkg hsf hst
      go_wp2_with fail
      obtain ⟨wz, hwz⟩ : ∃ wz : World, wz = wr := ⟨_, rfl⟩
      rw [← hwz] at Hst
      have Hst' : Hid (GvSt 60 w (w.heap.size + 1 + 1) wz.heap.size (.slice As n.sets.length cs) (.slice Ak n.links.length ck) (gvS is n.sets n.sets.length) [] (.slice As2 (gvS is n.sets n.sets.length).length cs2) (.slice none 0 0) wr) := Lib.hid (hwz ▸ Hst.out)
      clear Hst hwz hb0 hb1 hbg Hhb
      go_loopg [8, 9, 35] n.links.length (fun q u8 u9 i wq => ∃ (j : Nat) (kv : Value), j + q = n.links.length ∧ i = .int .i64 j ∧ GvSt 60 w (w.heap.size + 1 + 1) wz.heap.size (.slice As n.sets.length cs) (.slice Ak n.links.length ck) (gvS is n.sets n.sets.length) (gvL is n.sets.length n.links j) (.slice As2 (gvS is n.sets n.sets.length).length cs2) kv wq)
      case atStart => exact ⟨0, _, by omega, rfl, Hst'.out⟩
      clear Hst' hx
      case round =>
        obtain ⟨j, kv, hj, rfl, hst⟩ := hrel
        obtain ⟨Akv, ckv, rfl⟩ := hst.2.2.2.2.2.2.2.2.len
        have hx := hst.1
        have Hst := Lib.hid hst
        have hll := gvL_len is n.sets.length n.links j
        clear hst
        by_cases hlt : j < n.links.length
        · obtain ⟨b, off, rfl, _, hb, h1, h2, h3, h4⟩ := (H.out.2.ext hx (Nat.le_refl _)).at_ hlt
          have hb := Hst.out.2.1; have hb0 := hb.at0; have hb1 := hb.at1; have hbg := hb.1; have Hhb := Lib.hid hb; clear hb
          go_wp2_with fail
          refine Calls.mono (Hf2.out j _ hlt (by repeat (first | exact Ext.refl _ | assumption | refine Ext.alloc ?_ _ | refine Ext.drew ?_ | refine Ext.drewN ?_ _ | refine Ext.setCell ?_ (by first | (simp; done) | (simp; omega) | omega) _ | refine Ext.trans ?_ (by assumption)))) ?_
          rintro e w2 ⟨rfl, hx2⟩
          have hx12 : Ext wr w2 := (by repeat (first | exact Ext.refl _ | assumption | refine Ext.alloc ?_ _ | refine Ext.drew ?_ | refine Ext.drewN ?_ _ | refine Ext.setCell ?_ (by first | (simp; done) | (simp; omega) | omega) _ | refine Ext.trans ?_ (by assumption)))
          have lb := (Boxed.new wr [.int .i64 (lkAt n.links j).be, .int .i64 (lkAt n.links j).af, .int .i64 (lkAt n.links j).le, .int .i64 (lkAt n.links j).mo] 60).ext hx2; have lb0 := lb.at0; have lb1 := lb.at1; have lb2 := lb.at2; have lb3 := lb.at3; have lbg := lb.1; have Hlb := Lib.hid lb; clear lb
          have Hst2 := Lib.hid (Hst.out.ext hx12)
          clear Hst hb0 hb1 hbg Hhb h1 h2 h3 h4 hx hx2
          by_cases hi : is (n.sets.length + j)
          · have Hi := Lib.hid hi
            have hq := B_true hi
            rw [hq]
            clear hq hi
            go_wp2_with fail
            go_roundg (n.links.length - (j + 1))
            case measure => omega
            case rel => exact ⟨j + 1, _, by omega, by go_num, by rw [gvL_yes Hi.out]; exact Hst2.out⟩
          · have Hi := Lib.hid hi
            have hq := B_false hi
            rw [hq]
            clear hq hi
            have ob := Hst2.out.2.2.2.1; have ob0 := ob.at0; have ob1 := ob.at1; have obg := ob.1; have Hob := Lib.hid ob; clear ob
            have of1 := Hob.out.fz 1 (by simp)
            have hz1 := Hst2.out.2.2.2.2.2.2.1
            have hz2 := Hst2.out.2.2.2.2.2.1
            go_wp2_with (at_builtin; refine wpList_append_row _ rfl _ _ 25 rfl wz.heap.size 60 4 32 Try.underlying25 (by kernel_rfl) (by omega) _ (gvL is n.sets.length n.links j).length 1 _ rfl (Hst2.out.2.2.2.2.2.2.2.2.ext (by repeat (first | exact Ext.refl _ | assumption | refine Ext.alloc ?_ _ | refine Ext.drew ?_ | refine Ext.drewN ?_ _ | refine Ext.setCell ?_ (by first | (simp; done) | (simp; omega) | omega) _ | refine Ext.trans ?_ (by assumption)))) (.inr (by omega)) 0 _ _ (linkCell [lkAt n.links j]) rfl ((Boxed.new w2 [.int .i64 (lkAt n.links j).be, .int .i64 (lkAt n.links j).af, .int .i64 (lkAt n.links j).le, .int .i64 (lkAt n.links j).mo] 60).row rfl (lk_cells _)) (fun i _ => linkCell_one _ i) (by unfold maxLen; omega) (by omega) (by simp; omega) ?_; intro k3 w3 hown3 hput3; obtain ⟨Ak3, ck3, rfl⟩ := ownsRow_len hown3; have hob3 := Boxed.off (Hob.out.ext (show Ext w2 (w2.alloc (.cells #[.int .i64 (lkAt n.links j).be, .int .i64 (lkAt n.links j).af, .int .i64 (lkAt n.links j).le, .int .i64 (lkAt n.links j).mo] 60)) from (by repeat (first | exact Ext.refl _ | assumption | refine Ext.alloc ?_ _ | refine Ext.drew ?_ | refine Ext.drewN ?_ _ | refine Ext.setCell ?_ (by first | (simp; done) | (simp; omega) | omega) _ | refine Ext.trans ?_ (by assumption))))) hput3.1 (fun hh => by have := hh.1; omega); have ho3 := hob3.at1; have ho3f := hob3.fz 1 (by simp); have Hst3 := Lib.hid (Hst2.out.push (l := lkAt n.links j) (show Ext w2 (w2.alloc (.cells #[.int .i64 (lkAt n.links j).be, .int .i64 (lkAt n.links j).af, .int .i64 (lkAt n.links j).le, .int .i64 (lkAt n.links j).mo] 60)) from (by repeat (first | exact Ext.refl _ | assumption | refine Ext.alloc ?_ _ | refine Ext.drew ?_ | refine Ext.drewN ?_ _ | refine Ext.setCell ?_ (by first | (simp; done) | (simp; omega) | omega) _ | refine Ext.trans ?_ (by assumption)))) hput3 hown3); clear hown3 hput3 hob3)
            go_roundg (n.links.length - (j + 1))
            case measure => omega
            case rel => exact ⟨j + 1, _, by omega, by go_num, by rw [gvL_no Hi.out]; exact Hst3.out⟩
        · obtain rfl : j = n.links.length := by omega
          have ob := Hst.out.2.2.2.1; have ob0 := ob.at0; have ob1 := ob.at1; have obg := ob.1; have Hob := Lib.hid ob; clear ob
          have rb := Hst.out.2.2.1; have rb0 := rb.at0; have rb1 := rb.at1; have rbg := rb.1; have Hrb := Lib.hid rb; clear rb
          have rf0 := Hrb.out.fz 0 (by simp)
          have rf1 := Hrb.out.fz 1 (by simp)
          go_wp2_with fail
          refine bodyPost_ret (v := .agg #[.slice As2 (gvS is n.sets n.sets.length).length cs2, .slice Akv (gvL is n.sets.length n.links n.links.length).length ckv]) (by simp [results, Try.results130, go_sem, *]) rfl ?_
          exact Hst.out.done
end Go.Proofs.Ytfajmlkiidnhlaa
