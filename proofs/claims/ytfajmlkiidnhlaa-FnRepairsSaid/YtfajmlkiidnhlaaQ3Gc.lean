/- Texts merged (a claim holds at most sixty files): Gc, Bl, Rb. -/
import Derived.Test.YtfajmlkiidnhlaaQ3Dp
import Derived.Test.YtfajmlkiidnhlaaQ3N
import Derived.Test.YtfajmlkiidnhlaaQ3H
import Derived.Test.YtfajmlkiidnhlaaQ3Fs
/- Contracts: lists of statements: Contains, Index, their checks. -/
namespace Go.Proofs.Ytfajmlkiidnhlaa
set_option linter.unusedVariables false
set_option linter.unusedSimpArgs false
open Go.RowKit
attribute [local go_sem] cell_onto

set_option maxHeartbeats 1000000 in
theorem slices_Index_ints (v : Value) (l : List Int) (x : Int) (w : World) (h : Ints w 0 w.heap.size v l) : Calls Try.prog 196 #[v, .int .i64 x] w (RetIdx l.length (fun i => inAt l i = x) w) := by
  obtain ⟨A, c, rfl, hn, hc⟩ := h.len
  have H := Lib.hid h
  clear h
  go_enter Try.func196, Try.ntmps196
  go_wp2_with fail
  go_loopg [5, 8] l.length (fun k u i wr => ∃ j : Nat, j + k = l.length ∧ i = .int .i64 j ∧ Ext w wr ∧ ∀ i, i < j → ¬ inAt l i = x)
  case atStart => exact ⟨0, by omega, rfl, Ext.refl _, fun i hi => absurd hi (by omega)⟩
  case round =>
    obtain ⟨j, hj, rfl, hx, hok⟩ := hrel
    have Hok := Lib.hid hok
    clear hok
    by_cases hlt : j < l.length
    · obtain ⟨b, off, rfl, _, hb, h1⟩ := (H.out.ext hx (Nat.le_refl _)).at_ hlt
      by_cases e : inAt l j = x
      · have E := Lib.hid e
        have e1 : (x == inAt l j) = true := by simp [e]
        clear e
        go_wp2_with fail
        go_ret
        exact ⟨j, rfl, (by repeat (first | exact Ext.refl _ | assumption | refine Ext.alloc ?_ _ | refine Ext.drew ?_ | refine Ext.drewN ?_ _ | refine Ext.setCell ?_ (by first | (simp; done) | (simp; omega) | omega) _ | refine Ext.trans ?_ (by assumption))), .inr ⟨by omega, j, hlt, E.out⟩⟩
      · have E := Lib.hid e
        have e1 : (x == inAt l j) = false := by simp; exact fun h => e h.symm
        clear e
        go_wp2_with fail
        go_roundg (l.length - (j + 1))
        case measure => omega
        case rel =>
          refine ⟨j + 1, by omega, by go_num, (by repeat (first | exact Ext.refl _ | assumption | refine Ext.alloc ?_ _ | refine Ext.drew ?_ | refine Ext.drewN ?_ _ | refine Ext.setCell ?_ (by first | (simp; done) | (simp; omega) | omega) _ | refine Ext.trans ?_ (by assumption))), fun i hi => ?_⟩
          by_cases e : i = j
          · rw [e]; exact E.out
          · exact Hok.out i (by omega)
    · obtain rfl : j = l.length := by omega
      go_wp2_with fail
      go_ret
      exact ⟨-1, rfl, (by repeat (first | exact Ext.refl _ | assumption | refine Ext.alloc ?_ _ | refine Ext.drew ?_ | refine Ext.drewN ?_ _ | refine Ext.setCell ?_ (by first | (simp; done) | (simp; omega) | omega) _ | refine Ext.trans ?_ (by assumption))), .inl ⟨rfl, Hok.out⟩⟩
set_option maxHeartbeats 1000000 in
theorem slices_Contains_ints (v : Value) (l : List Int) (x : Int) (w : World) (h : Ints w 0 w.heap.size v l) : Calls Try.prog 132 #[v, .int .i64 x] w (RetX (.bool (B (HasI l x))) w) := by
  have H := Lib.hid (slices_Index_ints v l x w h)
  clear h
  go_enter Try.func132, Try.ntmps132
  go_wp2_with fail
  refine H.out.mono ?_
  rintro e w1 ⟨r, rfl, hx, hr⟩
  have Hr := Lib.hid hr
  clear hr
  go_wp2_with fail
  go_ret
  refine ⟨ret_bool (B_eq ?_), (by repeat (first | exact Ext.refl _ | assumption | refine Ext.alloc ?_ _ | refine Ext.drew ?_ | refine Ext.drewN ?_ _ | refine Ext.setCell ?_ (by first | (simp; done) | (simp; omega) | omega) _ | refine Ext.trans ?_ (by assumption)))⟩
  simp only [decide_eq_true_eq]
  constructor
  · intro h
    rcases Hr.out with ⟨h1, _⟩ | ⟨_, h2⟩
    · omega
    · exact h2
  · rintro ⟨i, h1, h2⟩
    rcases Hr.out with ⟨_, h3⟩ | ⟨h3, _⟩
    · exact absurd h2 (h3 i h1)
    · omega

set_option maxHeartbeats 1000000 in
theorem spec_l01Has (v : Value) (l : List Int) (x : Int) (w : World) (h : Ints w 0 w.heap.size v l) : Calls Try.prog 197 #[v, .int .i64 x] w (RetX (.bool (B (HasI l x))) w) := by
  obtain ⟨A, c, rfl, hn, hc⟩ := h.len
  have H := Lib.hid h
  clear h
  go_enter Try.func197, Try.ntmps197
  go_wp2_with fail
  go_loopg [5] l.length (fun k i wr => ∃ j : Nat, j + k = l.length ∧ i = .int .i64 j ∧ Ext w wr ∧ ∀ i, i < j → ¬ inAt l i = x)
  case atStart => exact ⟨0, by omega, rfl, Ext.refl _, fun i hi => absurd hi (by omega)⟩
  case round =>
    obtain ⟨j, hj, rfl, hx, hok⟩ := hrel
    have Hok := Lib.hid hok
    clear hok
    by_cases hlt : j < l.length
    · obtain ⟨b, off, rfl, _, hb, h1⟩ := (H.out.ext hx (Nat.le_refl _)).at_ hlt
      by_cases e : inAt l j = x
      · have E := Lib.hid e
        have e1 : (inAt l j == x) = true := by simp [e]
        clear e
        go_wp2_with fail
        go_ret
        exact ⟨ret_bool (B_true ⟨j, hlt, E.out⟩).symm, (by repeat (first | exact Ext.refl _ | assumption | refine Ext.alloc ?_ _ | refine Ext.drew ?_ | refine Ext.drewN ?_ _ | refine Ext.setCell ?_ (by first | (simp; done) | (simp; omega) | omega) _ | refine Ext.trans ?_ (by assumption)))⟩
      · have E := Lib.hid e
        have e1 : (inAt l j == x) = false := by simp [e]
        clear e
        go_wp2_with fail
        go_roundg (l.length - (j + 1))
        case measure => omega
        case rel =>
          refine ⟨j + 1, by omega, by go_num, (by repeat (first | exact Ext.refl _ | assumption | refine Ext.alloc ?_ _ | refine Ext.drew ?_ | refine Ext.drewN ?_ _ | refine Ext.setCell ?_ (by first | (simp; done) | (simp; omega) | omega) _ | refine Ext.trans ?_ (by assumption))), fun i hi => ?_⟩
          by_cases e : i = j
          · rw [e]; exact E.out
          · exact Hok.out i (by omega)
    · obtain rfl : j = l.length := by omega
      go_wp2_with fail
      go_ret
      exact ⟨ret_bool (B_false (fun ⟨i, hi, he⟩ => Hok.out i hi he)).symm, (by repeat (first | exact Ext.refl _ | assumption | refine Ext.alloc ?_ _ | refine Ext.drew ?_ | refine Ext.drewN ?_ _ | refine Ext.setCell ?_ (by first | (simp; done) | (simp; omega) | omega) _ | refine Ext.trans ?_ (by assumption)))⟩

def StepI (n : Net) (l : List Int) (i : Nat) : Prop := (0 ≤ inAt l i ∧ inAt l i ≤ (n.sets.length : Int) + n.links.length - 1) ∧ (0 < i → inAt l (i - 1) < inAt l i)
theorem stepI_more {n : Net} {l : List Int} {j : Nat} (h : ∀ i, i < j → StepI n l i) (h' : StepI n l j) : ∀ i, i < j + 1 → StepI n l i := by
  intro i hi
  by_cases e : i = j
  · subst e; exact h'
  · exact h i (by omega)

set_option maxRecDepth 100000 in
set_option maxHeartbeats 2000000 in
theorem impl_checkStatements (s k v : Value) (n : Net) (l : List Int) (w : World) (h : NetIn w s k n) (hl : Ints w 0 w.heap.size v l) :
    Calls Try.prog 129 #[.agg #[s, k], v] w (RetX (.int .i64 (stmE n l)) w) := by
  obtain ⟨A, c, rfl, hn, hc⟩ := hl.len
  have H := Lib.hid h
  have Hl := Lib.hid hl
  clear h hl
  go_enter Try.func129, Try.ntmps129
  go_wp2_with fail
  refine Calls.mono (impl_IsNetwork s k n _ (H.out.up (by repeat (first | exact Ext.refl _ | assumption | refine Ext.alloc ?_ _ | refine Ext.drew ?_ | refine Ext.drewN ?_ _ | refine Ext.setCell ?_ (by first | (simp; done) | (simp; omega) | omega) _ | refine Ext.trans ?_ (by assumption))))) ?_
  rintro e w1 ⟨rfl, hx1⟩
  have hx : Ext w w1 := (by repeat (first | exact Ext.refl _ | assumption | refine Ext.alloc ?_ _ | refine Ext.drew ?_ | refine Ext.drewN ?_ _ | refine Ext.setCell ?_ (by first | (simp; done) | (simp; omega) | omega) _ | refine Ext.trans ?_ (by assumption)))
  by_cases hok : NetOk n
  · have Hok := Lib.hid hok
    have hq := B_true hok
    rw [hq]
    clear hq hok
    have h8 := Hok.out.1
    have h20 := Hok.out.2.1
    have hb := (Boxed.new w [s, k] 27).ext hx1; have hb0 := hb.at0; have hb1 := hb.at1; have hbg := hb.1; have Hhb := Lib.hid hb; clear hb
    clear hx1
    go_wp2_with fail
    go_loopg [5, 6, 12] l.length (fun q u u' i wr => ∃ j : Nat, j + q = l.length ∧ i = .int .i64 j ∧ Ext w wr ∧ Boxed wr w.heap.size [s, k] ∧ ∀ i, i < j → StepI n l i)
    case atStart => exact ⟨0, by omega, rfl, hx, Hhb.out, fun i hi => absurd hi (by omega)⟩
    clear hb0 hb1 hbg Hhb hx
    case round =>
      obtain ⟨j, hj, rfl, hx, hbb, hok⟩ := hrel
      have Hs := Lib.hid hok
      clear hok
      have hb := hbb; have hb0 := hb.at0; have hb1 := hb.at1; have hbg := hb.1; have Hhb := Lib.hid hb; clear hb
      clear hbb
      by_cases hlt : j < l.length
      · obtain ⟨b, off, rfl, _, hb, h1⟩ := (Hl.out.ext hx (Nat.le_refl _)).at_ hlt
        have hbr : b < wr.heap.size := Nat.lt_of_lt_of_le hb hx.size
        go_wp2_with fail
        refine Calls.mono (impl_statementsOf s k n _ (H.out.up hx) ⟨by omega, by omega⟩) ?_
        rintro e w2 ⟨rfl, hx2⟩
        have hxx : Ext w w2 := hx.trans hx2
        have Hbb := Lib.hid (Hhb.out.ext hx2)
        obtain ⟨b', off', e', _, _, h1'⟩ := (Hl.out.ext hxx (Nat.le_refl _)).at_ hlt
        injection e' with e'
        injection e' with e1 e2
        subst e1 e2
        clear h1 hb0 hb1 hbg Hhb hx hbr
        have hbr : b < w2.heap.size := Nat.lt_of_lt_of_le hb hxx.size
        have hb := Hbb.out; have hb0 := hb.at0; have hb1 := hb.at1; have hbg := hb.1; have Hhb := Lib.hid hb; clear hb
        go_wp2_with fail
        refine Calls.mono (impl_within (inAt l j) 0 ((n.sets.length : Int) + n.links.length - 1) _) ?_
        rintro e w' ⟨rfl, rfl⟩
        by_cases hr : 0 ≤ inAt l j ∧ inAt l j ≤ (n.sets.length : Int) + n.links.length - 1
        · have Hr := Lib.hid hr
          have hq := B_true hr
          rw [hq]
          clear hq hr
          by_cases h0 : 0 < j
          · have hb0' : decide ((0 : Int) < (j : Int)) = true := by simp; omega
            obtain ⟨b3, off3, e3, _, _, h3⟩ := (Hl.out.ext hxx (Nat.le_refl _)).at_ (i := j - 1) (by omega)
            injection e3 with e3
            injection e3 with e31 e32
            subst e31 e32
            by_cases hp : inAt l (j - 1) < inAt l j
            · have hd : decide (inAt l j ≤ inAt l (j - 1)) = false := decide_eq_false (by omega)
              have Hp := Lib.hid hp
              clear hp
              go_wp2_with fail
              go_roundg (l.length - (j + 1))
              case measure => omega
              case rel => exact ⟨j + 1, by omega, by go_num, hxx, Hhb.out, stepI_more Hs.out ⟨Hr.out, fun _ => Hp.out⟩⟩
            · have hd : decide (inAt l j ≤ inAt l (j - 1)) = true := decide_eq_true (by omega)
              have Hp := Lib.hid hp
              clear hp
              go_wp2_with fail
              go_ret
              exact ⟨by rw [stm_bad Hok.out (fun hh => by have h7 := (hh j hlt).2 h0; have h9 := Hp.out; omega)]; rfl, (by repeat (first | exact Ext.refl _ | assumption | refine Ext.alloc ?_ _ | refine Ext.drew ?_ | refine Ext.drewN ?_ _ | refine Ext.setCell ?_ (by first | (simp; done) | (simp; omega) | omega) _ | refine Ext.trans ?_ (by assumption)))⟩
          · have hb0' : decide ((0 : Int) < (j : Int)) = false := by simp; omega
            go_wp2_with fail
            go_roundg (l.length - (j + 1))
            case measure => omega
            case rel => exact ⟨j + 1, by omega, by go_num, hxx, Hhb.out, stepI_more Hs.out ⟨Hr.out, fun h => absurd h h0⟩⟩
        · have Hr := Lib.hid hr
          have hq := B_false hr
          rw [hq]
          clear hq hr
          go_wp2_with fail
          go_ret
          exact ⟨by rw [stm_bad Hok.out (fun hh => Hr.out (hh j hlt).1)]; rfl, (by repeat (first | exact Ext.refl _ | assumption | refine Ext.alloc ?_ _ | refine Ext.drew ?_ | refine Ext.drewN ?_ _ | refine Ext.setCell ?_ (by first | (simp; done) | (simp; omega) | omega) _ | refine Ext.trans ?_ (by assumption)))⟩
      · obtain rfl : j = l.length := by omega
        go_wp2_with fail
        go_ret
        exact ⟨by rw [stm_ok Hok.out Hs.out]; rfl, (by repeat (first | exact Ext.refl _ | assumption | refine Ext.alloc ?_ _ | refine Ext.drew ?_ | refine Ext.drewN ?_ _ | refine Ext.setCell ?_ (by first | (simp; done) | (simp; omega) | omega) _ | refine Ext.trans ?_ (by assumption)))⟩
  · have Hok := Lib.hid hok
    have hq := B_false hok
    rw [hq]
    clear hq hok
    go_wp2_with fail
    go_ret
    exact ⟨by rw [stm_net Hok.out]; rfl, (by repeat (first | exact Ext.refl _ | assumption | refine Ext.alloc ?_ _ | refine Ext.drew ?_ | refine Ext.drewN ?_ _ | refine Ext.setCell ?_ (by first | (simp; done) | (simp; omega) | omega) _ | refine Ext.trans ?_ (by assumption)))⟩

set_option maxRecDepth 100000 in
set_option maxHeartbeats 2000000 in
theorem spec_l21List (s k v : Value) (n : Net) (l : List Int) (w : World) (h : NetIn w s k n) (hl : Ints w 0 w.heap.size v l) (hok : NetOk n) :
    Calls Try.prog 133 #[.agg #[s, k], v] w (RetX (.bool (B (StmOk n l))) w) := by
  obtain ⟨A, c, rfl, hn, hc⟩ := hl.len
  have H := Lib.hid h
  have Hl := Lib.hid hl
  have Hok := Lib.hid hok
  have h8 := hok.1
  have h20 := hok.2.1
  clear h hl hok
  go_enter Try.func133, Try.ntmps133
  have hb := Boxed.new w [s, k] 27; have hb0 := hb.at0; have hb1 := hb.at1; have hbg := hb.1; have Hhb := Lib.hid hb; clear hb
  go_wp2_with fail
  go_loopg [5] l.length (fun q i wr => ∃ j : Nat, j + q = l.length ∧ i = .int .i64 j ∧ Ext w wr ∧ Boxed wr w.heap.size [s, k] ∧ ∀ i, i < j → StepI n l i)
  case atStart => exact ⟨0, by omega, rfl, (by repeat (first | exact Ext.refl _ | assumption | refine Ext.alloc ?_ _ | refine Ext.drew ?_ | refine Ext.drewN ?_ _ | refine Ext.setCell ?_ (by first | (simp; done) | (simp; omega) | omega) _ | refine Ext.trans ?_ (by assumption))), Hhb.out, fun i hi => absurd hi (by omega)⟩
  clear hb0 hb1 hbg Hhb
  case round =>
    obtain ⟨j, hj, rfl, hx, hbb, hok⟩ := hrel
    have Hs := Lib.hid hok
    clear hok
    have hb := hbb; have hb0 := hb.at0; have hb1 := hb.at1; have hbg := hb.1; have Hhb := Lib.hid hb; clear hb
    clear hbb
    by_cases hlt : j < l.length
    · obtain ⟨b, off, rfl, _, hb, h1⟩ := (Hl.out.ext hx (Nat.le_refl _)).at_ hlt
      have hbr : b < wr.heap.size := Nat.lt_of_lt_of_le hb hx.size
      have hjl : (j : Int) < (l.length : Int) := by omega
      by_cases hr : 0 ≤ inAt l j ∧ inAt l j ≤ (n.sets.length : Int) + n.links.length - 1
      · have Hr := Lib.hid hr
        have Hr1 := Lib.hid (B_true hr)
        clear hr
        by_cases h0 : 0 < j
        · have hb0' : decide ((0 : Int) < (j : Int)) = true := by simp; omega
          obtain ⟨b3, off3, e3, _, _, h3⟩ := (Hl.out.ext hx (Nat.le_refl _)).at_ (i := j - 1) (by omega)
          injection e3 with e3
          injection e3 with e31 e32
          subst e31 e32
          by_cases hp : inAt l (j - 1) < inAt l j
          · have hd : decide (inAt l j ≤ inAt l (j - 1)) = false := decide_eq_false (by omega)
            have Hp := Lib.hid hp
            clear hp
            go_wp2_with fail
            (refine wp_region_onto prog_mixed (by kernel_rfl) ?_; (repeat (go_big_quiet_step ((first | (go_at_call 136; exact onto_callX (spec_l21Count s k n _ (H.out.up (hx.trans (onto_ext _ _))) ⟨by omega, by omega⟩)) | (go_at_call 98; exact onto_callSb Hr1.out (spec_l01In _ _ _ _)))))); refine onto_end ?_; intro w1 hx1)
            go_wp2_with fail
            go_roundg (l.length - (j + 1))
            case measure => omega
            case rel => exact ⟨j + 1, by omega, by go_num, (by repeat (first | exact Ext.refl _ | assumption | refine Ext.alloc ?_ _ | refine Ext.drew ?_ | refine Ext.drewN ?_ _ | refine Ext.setCell ?_ (by first | (simp; done) | (simp; omega) | omega) _ | refine Ext.trans ?_ (by assumption))), Hhb.out.ext (by repeat (first | exact Ext.refl _ | assumption | refine Ext.alloc ?_ _ | refine Ext.drew ?_ | refine Ext.drewN ?_ _ | refine Ext.setCell ?_ (by first | (simp; done) | (simp; omega) | omega) _ | refine Ext.trans ?_ (by assumption))), stepI_more Hs.out ⟨Hr.out, fun _ => Hp.out⟩⟩
          · have hd : decide (inAt l j ≤ inAt l (j - 1)) = true := decide_eq_true (by omega)
            have Hp := Lib.hid hp
            clear hp
            go_wp2_with fail
            (refine wp_region_onto prog_mixed (by kernel_rfl) ?_; (repeat (go_big_quiet_step ((first | (go_at_call 136; exact onto_callX (spec_l21Count s k n _ (H.out.up (hx.trans (onto_ext _ _))) ⟨by omega, by omega⟩)) | (go_at_call 98; exact onto_callSb Hr1.out (spec_l01In _ _ _ _)))))); refine onto_end ?_; intro w1 hx1)
            go_wp2_with fail
            go_ret
            exact ⟨ret_bool (B_false (fun hh => by have h7 := (hh j hlt).2 h0; have h9 := Hp.out; omega)).symm, (by repeat (first | exact Ext.refl _ | assumption | refine Ext.alloc ?_ _ | refine Ext.drew ?_ | refine Ext.drewN ?_ _ | refine Ext.setCell ?_ (by first | (simp; done) | (simp; omega) | omega) _ | refine Ext.trans ?_ (by assumption)))⟩
        · have hb0' : decide ((0 : Int) < (j : Int)) = false := by simp; omega
          go_wp2_with fail
          (refine wp_region_onto prog_mixed (by kernel_rfl) ?_; (repeat (go_big_quiet_step ((first | (go_at_call 136; exact onto_callX (spec_l21Count s k n _ (H.out.up (hx.trans (onto_ext _ _))) ⟨by omega, by omega⟩)) | (go_at_call 98; exact onto_callSb Hr1.out (spec_l01In _ _ _ _)))))); refine onto_end ?_; intro w1 hx1)
          go_wp2_with fail
          go_roundg (l.length - (j + 1))
          case measure => omega
          case rel => exact ⟨j + 1, by omega, by go_num, (by repeat (first | exact Ext.refl _ | assumption | refine Ext.alloc ?_ _ | refine Ext.drew ?_ | refine Ext.drewN ?_ _ | refine Ext.setCell ?_ (by first | (simp; done) | (simp; omega) | omega) _ | refine Ext.trans ?_ (by assumption))), Hhb.out.ext (by repeat (first | exact Ext.refl _ | assumption | refine Ext.alloc ?_ _ | refine Ext.drew ?_ | refine Ext.drewN ?_ _ | refine Ext.setCell ?_ (by first | (simp; done) | (simp; omega) | omega) _ | refine Ext.trans ?_ (by assumption))), stepI_more Hs.out ⟨Hr.out, fun h => absurd h h0⟩⟩
      · have Hr := Lib.hid hr
        have Hr1 := Lib.hid (B_false hr)
        clear hr
        go_wp2_with fail
        (refine wp_region_onto prog_mixed (by kernel_rfl) ?_; (repeat (go_big_quiet_step ((first | (go_at_call 136; exact onto_callX (spec_l21Count s k n _ (H.out.up (hx.trans (onto_ext _ _))) ⟨by omega, by omega⟩)) | (go_at_call 98; exact onto_callSb Hr1.out (spec_l01In _ _ _ _)))))); refine onto_end ?_; intro w1 hx1)
        go_wp2_with fail
        go_ret
        exact ⟨ret_bool (B_false (fun hh => Hr.out (hh j hlt).1)).symm, (by repeat (first | exact Ext.refl _ | assumption | refine Ext.alloc ?_ _ | refine Ext.drew ?_ | refine Ext.drewN ?_ _ | refine Ext.setCell ?_ (by first | (simp; done) | (simp; omega) | omega) _ | refine Ext.trans ?_ (by assumption)))⟩
    · obtain rfl : j = l.length := by omega
      go_wp2_with fail
      go_ret
      exact ⟨ret_bool (B_true Hs.out).symm, (by repeat (first | exact Ext.refl _ | assumption | refine Ext.alloc ?_ _ | refine Ext.drew ?_ | refine Ext.drewN ?_ _ | refine Ext.setCell ?_ (by first | (simp; done) | (simp; omega) | omega) _ | refine Ext.trans ?_ (by assumption)))⟩
end Go.Proofs.Ytfajmlkiidnhlaa

/- How many choices there are where sets may be given up. Plain Lean. -/
namespace Go.Proofs.Ytfajmlkiidnhlaa
set_option linter.unusedVariables false
set_option linter.unusedSimpArgs false

def blP : List (List Sp) → Nat
  | [] => 1
  | s :: r => max 1 s.length * blP r
theorem blP_snoc : ∀ (l : List (List Sp)) (s : List Sp), blP (l ++ [s]) = blP l * max 1 s.length
  | [], s => by simp [blP]
  | t :: r, s => by
    show max 1 t.length * blP (r ++ [s]) = max 1 t.length * blP r * max 1 s.length
    rw [blP_snoc r s, Nat.mul_assoc]
def blTo (l : List (List Sp)) : Nat → Int
  | 0 => 1
  | k + 1 => min 257 (blTo l k * max 1 ((setAt l k).length : Int))
theorem blTo_bd (l : List (List Sp)) : ∀ k, 1 ≤ blTo l k ∧ blTo l k ≤ 257
  | 0 => by simp [blTo]
  | k + 1 => by
    have ih := blTo_bd l k
    have h1 : (1 : Int) ≤ max 1 ((setAt l k).length : Int) := Int.le_max_left _ _
    have h2 : 1 * 1 ≤ blTo l k * max 1 ((setAt l k).length : Int) := Int.mul_le_mul ih.1 h1 (by omega) (by omega)
    show 1 ≤ min 257 (blTo l k * max 1 ((setAt l k).length : Int)) ∧ min 257 (blTo l k * max 1 ((setAt l k).length : Int)) ≤ 257
    generalize blTo l k * max 1 ((setAt l k).length : Int) = q at *
    omega
theorem blTo_zero {l : List (List Sp)} {k : Nat} (h : (setAt l k).length = 0) : blTo l (k + 1) = blTo l k := by
  have ih := blTo_bd l k
  show min 257 (blTo l k * max 1 ((setAt l k).length : Int)) = _
  have e : max (1 : Int) ((0 : Nat) : Int) = 1 := by decide
  rw [h, e, Int.mul_one]
  omega
theorem blTo_pos {l : List (List Sp)} {k : Nat} (h : (setAt l k).length ≠ 0) : blTo l (k + 1) = min 257 (blTo l k * ((setAt l k).length : Int)) := by
  show min 257 (blTo l k * max 1 ((setAt l k).length : Int)) = _
  rw [Int.max_eq_right (by omega)]
theorem blTo_exact {l : List (List Sp)} : ∀ i, i ≤ l.length → blTo l i = min 257 (blP (l.take i) : Int)
  | 0, _ => by show (1 : Int) = min 257 1; decide
  | i + 1, hi => by
    have ih := blTo_exact (l := l) i (by omega)
    have e : l.take (i + 1) = l.take i ++ [setAt l i] := by
      rw [List.take_succ_eq_append_getElem (by omega)]
      unfold setAt
      rw [List.getD_eq_getElem?_getD, List.getElem?_eq_getElem (by omega)]
      rfl
    rw [e, blP_snoc]
    show min 257 (blTo l i * max 1 ((setAt l i).length : Int)) = _
    rw [ih]
    have h3 : (1 : Int) ≤ max 1 ((setAt l i).length : Int) := Int.le_max_left _ _
    have h6 : ((max 1 (setAt l i).length : Nat) : Int) = max 1 ((setAt l i).length : Int) := by omega
    rw [Int.natCast_mul, h6]
    generalize max 1 ((setAt l i).length : Int) = z at *
    generalize blP (l.take i) = q at *
    rcases Int.le_total 257 (q : Int) with hq | hq
    · rw [Int.min_eq_left hq]
      have h4 : (257 : Int) * 1 ≤ 257 * z := Int.mul_le_mul_of_nonneg_left h3 (by omega)
      have h5 : (257 : Int) * z ≤ (q : Int) * z := Int.mul_le_mul_of_nonneg_right hq (by omega)
      rw [Int.min_eq_left (by omega), Int.min_eq_left (by omega)]
    · rw [Int.min_eq_right hq]
def blN (n : Net) : Int := blTo n.sets n.sets.length
theorem blN_exact (n : Net) : blN n = min 257 (blP n.sets : Int) := by
  unfold blN
  rw [blTo_exact _ (Nat.le_refl _), List.take_length]
theorem prodN_le : ∀ {a b : List (List Sp)}, a.length = b.length → (∀ i, i < b.length → (setAt a i).length ≤ max 1 (setAt b i).length) → prodN a ≤ blP b
  | [], [], _, _ => Nat.le_refl _
  | s :: r, t :: q, hl, h => by
    have h0 : s.length ≤ max 1 t.length := h 0 (by simp)
    have h1 := prodN_le (a := r) (b := q) (by simpa using hl) (fun i hi => h (i + 1) (by simp; omega))
    show s.length * prodN r ≤ max 1 t.length * blP q
    exact Nat.mul_le_mul h0 h1
  | [], _ :: _, hl, _ => by simp at hl
  | _ :: _, [], hl, _ => by simp at hl
theorem choN_small {l : List (List Sp)} (h : prodN l ≤ 4096) : choN 4096 l = (prodN l : Int) := by
  refine choN_exact (m := 4096) ?_
  by_cases h0 : ∃ i, i < l.length ∧ (setAt l i).length = 0
  · obtain ⟨i, hi, e⟩ := h0
    have e2 : choN ((4096 : Nat) : Int) l = 0 := choN_zero hi e
    rw [e2]; omega
  · have h' : ∀ i, i < l.length → (setAt l i).length ≠ 0 := fun i hi e => h0 ⟨i, hi, e⟩
    rw [choN_prod h', prodTo_exact l.length (Nat.le_refl _) h', List.take_length]
    omega
/-- where not too many may be blamed, no network in which statements are given up has too many choices -/
theorem blame_few {n : Net} {is : Nat → Prop} (h : blN n ≤ 256) : prodN (giveN is n).sets ≤ 256 := by
  have h1 := blN_exact n
  have h2 : prodN (giveN is n).sets ≤ blP n.sets := by
    refine prodN_le (gvS_len _ _ _) (fun i hi => ?_)
    show (setAt (gvS is n.sets n.sets.length) i).length ≤ _
    rw [gvS_at is n.sets n.sets.length i hi]
    by_cases hp : is i
    · rw [B_true hp]; show 1 ≤ _; omega
    · rw [B_false hp]; show (setAt n.sets i).length ≤ _; omega
  omega
end Go.Proofs.Ytfajmlkiidnhlaa

/- Contracts: the codes of statements that may be blamed. -/
namespace Go.Proofs.Ytfajmlkiidnhlaa
set_option linter.unusedVariables false
set_option linter.unusedSimpArgs false
open Go.RowKit
attribute [local go_sem] cell_onto

noncomputable def blE (n : Net) (l : List Int) : Int := bif B (stmE n l = 0) then (bif B (blN n ≤ 256) then 0 else 3) else stmE n l
theorem blE_no {n : Net} {l : List Int} (h : stmE n l ≠ 0) : blE n l = stmE n l := by unfold blE; rw [B_false h]; rfl
theorem blE_big {n : Net} {l : List Int} (h : stmE n l = 0) (h2 : ¬ blN n ≤ 256) : blE n l = 3 := by unfold blE; rw [B_true h, B_false h2]; rfl
theorem blE_ok {n : Net} {l : List Int} (h : stmE n l = 0) (h2 : blN n ≤ 256) : blE n l = 0 := by unfold blE; rw [B_true h, B_true h2]; rfl
theorem stmE_zero {n : Net} {l : List Int} (h : stmE n l = 0) : NetOk n ∧ StmOk n l := by
  by_cases h1 : NetOk n
  · by_cases h2 : StmOk n l
    · exact ⟨h1, h2⟩
    · rw [stm_bad h1 h2] at h; omega
  · rw [stm_net h1] at h; omega
theorem blE_zero {n : Net} {l : List Int} (h : blE n l = 0) : NetOk n ∧ StmOk n l ∧ blN n ≤ 256 := by
  by_cases h1 : stmE n l = 0
  · by_cases h2 : blN n ≤ 256
    · exact ⟨(stmE_zero h1).1, (stmE_zero h1).2, h2⟩
    · rw [blE_big h1 h2] at h; omega
  · rw [blE_no h1] at h; exact absurd h h1
theorem bl_fit {l : List (List Sp)} (hf : SetsFit l) {j : Nat} (hj : j < l.length) : 0 ≤ blTo l j * ((setAt l j).length : Int) ∧ blTo l j * ((setAt l j).length : Int) ≤ 77100 := by
  have h1 := blTo_bd l j
  have h2 : ((setAt l j).length : Int) ≤ 300 := by have := hf j hj; omega
  refine ⟨Int.mul_nonneg (by omega) (by omega), ?_⟩
  have := Int.mul_le_mul (a := blTo l j) (b := ((setAt l j).length : Int)) (c := 257) (d := 300) (by omega) h2 (by omega) (by omega)
  omega
theorem bl_fit1 {l : List (List Sp)} (hf : SetsFit l) {j : Nat} (hj : j < l.length) : 0 ≤ blTo l j * (max 1 ((setAt l j).length : Int)) ∧ blTo l j * (max 1 ((setAt l j).length : Int)) ≤ 77100 := by
  have h1 := blTo_bd l j
  have h2 : ((setAt l j).length : Int) ≤ 300 := by have := hf j hj; omega
  have h3 : (1 : Int) ≤ max 1 ((setAt l j).length : Int) := Int.le_max_left _ _
  have h4 : max 1 ((setAt l j).length : Int) ≤ 300 := by omega
  refine ⟨Int.mul_nonneg (by omega) (by omega), ?_⟩
  have := Int.mul_le_mul (a := blTo l j) (b := max 1 ((setAt l j).length : Int)) (c := 257) (d := 300) (by omega) h4 (by omega) (by omega)
  omega

set_option maxHeartbeats 2000000 in
theorem impl_checkBlame (s k v : Value) (n : Net) (l : List Int) (w : World) (h : NetIn w s k n) (hl : Ints w 0 w.heap.size v l) :
    Calls Try.prog 123 #[.agg #[s, k], v] w (RetX (.int .i64 (blE n l)) w) := by
  obtain ⟨A, c, rfl, hn, hc⟩ := h.1.len
  obtain ⟨Al, cl, rfl, hnl, hcl⟩ := hl.len
  have H := Lib.hid h
  have Hl := Lib.hid hl
  clear h hl
  go_enter Try.func123, Try.ntmps123
  go_wp2_with fail
  refine Calls.mono (impl_checkStatements _ k _ n l _ (H.out.up (by repeat (first | exact Ext.refl _ | assumption | refine Ext.alloc ?_ _ | refine Ext.drew ?_ | refine Ext.drewN ?_ _ | refine Ext.setCell ?_ (by first | (simp; done) | (simp; omega) | omega) _ | refine Ext.trans ?_ (by assumption)))) (Hl.out.up (by repeat (first | exact Ext.refl _ | assumption | refine Ext.alloc ?_ _ | refine Ext.drew ?_ | refine Ext.drewN ?_ _ | refine Ext.setCell ?_ (by first | (simp; done) | (simp; omega) | omega) _ | refine Ext.trans ?_ (by assumption))))) ?_
  rintro e w1 ⟨rfl, hx1⟩
  have hb := (Boxed.new w [.slice A n.sets.length c, k] 27).ext hx1; have hb0 := hb.at0; have hb1 := hb.at1; have hbg := hb.1; have Hhb := Lib.hid hb; clear hb
  have hx : Ext w w1 := (by repeat (first | exact Ext.refl _ | assumption | refine Ext.alloc ?_ _ | refine Ext.drew ?_ | refine Ext.drewN ?_ _ | refine Ext.setCell ?_ (by first | (simp; done) | (simp; omega) | omega) _ | refine Ext.trans ?_ (by assumption)))
  clear hx1
  by_cases hs : stmE n l = 0
  · have Hs := Lib.hid hs
    have Hf := Lib.hid (SetsFit.of (stmE_zero hs).1)
    have hd : (stmE n l != 0) = false := by rw [hs]; rfl
    have Hbx : Hid (Boxed w1 w.heap.size [.slice A n.sets.length c, k]) := Lib.hid Hhb.out
    clear hs
    go_wp2_with fail
    go_loopg [6, 8, 18] n.sets.length (fun q t u8 i wr => ∃ j : Nat, j + q = n.sets.length ∧ i = .int .i64 j ∧ t = .int .i64 (blTo n.sets j) ∧ Ext w wr)
    case atStart => exact ⟨0, by omega, rfl, rfl, (by repeat (first | exact Ext.refl _ | assumption | refine Ext.alloc ?_ _ | refine Ext.drew ?_ | refine Ext.drewN ?_ _ | refine Ext.setCell ?_ (by first | (simp; done) | (simp; omega) | omega) _ | refine Ext.trans ?_ (by assumption)))⟩
    case round =>
      obtain ⟨j, hj, rfl, rfl, hxr⟩ := hrel
      by_cases hlt : j < n.sets.length
      · obtain ⟨b, off, u, rfl, _, hbl, h1, h2⟩ := (H.out.1.ext hxr (Nat.le_refl _)).at_ hlt
        obtain ⟨A2, c2, rfl, hn2, hc2⟩ := h2.len
        obtain ⟨p1, p2⟩ := bl_fit Hf.out hlt
        have p3 := blTo_bd n.sets j
        clear h2
        by_cases h0 : (setAt n.sets j).length = 0
        · have hd1 : decide (0 < ((setAt n.sets j).length : Int)) = false := decide_eq_false (by omega)
          have hd2 : decide (0 < (setAt n.sets j).length) = false := decide_eq_false (by omega)
          have H0 := Lib.hid (blTo_zero h0)
          go_wp2_with fail
          all_goals
            go_roundg (n.sets.length - (j + 1))
            case measure => omega
            case rel => exact ⟨j + 1, by omega, by go_num, by rw [H0.out], (by repeat (first | exact Ext.refl _ | assumption | refine Ext.alloc ?_ _ | refine Ext.drew ?_ | refine Ext.drewN ?_ _ | refine Ext.setCell ?_ (by first | (simp; done) | (simp; omega) | omega) _ | refine Ext.trans ?_ (by assumption)))⟩
        · have hd1 : decide (0 < ((setAt n.sets j).length : Int)) = true := decide_eq_true (by omega)
          have hd2 : decide (0 < (setAt n.sets j).length) = true := decide_eq_true (by omega)
          have H0 := Lib.hid (blTo_pos h0)
          go_wp2_with fail
          all_goals
            go_roundg (n.sets.length - (j + 1))
            case measure => omega
            case rel => exact ⟨j + 1, by omega, by go_num, by rw [H0.out]; congr 1; omega, (by repeat (first | exact Ext.refl _ | assumption | refine Ext.alloc ?_ _ | refine Ext.drew ?_ | refine Ext.drewN ?_ _ | refine Ext.setCell ?_ (by first | (simp; done) | (simp; omega) | omega) _ | refine Ext.trans ?_ (by assumption)))⟩
      · obtain rfl : j = n.sets.length := by omega
        have Hbn : Hid (blTo n.sets n.sets.length = blN n) := Lib.hid rfl
        rw [Hbn.out]
        by_cases hb : blN n ≤ 256
        · have T1 : decide (256 < blN n) = false := decide_eq_false (by omega)
          have Hb := Lib.hid hb
          clear hb
          go_wp2_with fail
          go_ret
          exact ⟨by rw [blE_ok Hs.out Hb.out]; rfl, (by repeat (first | exact Ext.refl _ | assumption | refine Ext.alloc ?_ _ | refine Ext.drew ?_ | refine Ext.drewN ?_ _ | refine Ext.setCell ?_ (by first | (simp; done) | (simp; omega) | omega) _ | refine Ext.trans ?_ (by assumption)))⟩
        · have T1 : decide (256 < blN n) = true := decide_eq_true (by omega)
          have Hb := Lib.hid hb
          clear hb
          go_wp2_with fail
          go_ret
          exact ⟨by rw [blE_big Hs.out (show ¬ blN n ≤ 256 by have := Hb.out; omega)]; rfl, (by repeat (first | exact Ext.refl _ | assumption | refine Ext.alloc ?_ _ | refine Ext.drew ?_ | refine Ext.drewN ?_ _ | refine Ext.setCell ?_ (by first | (simp; done) | (simp; omega) | omega) _ | refine Ext.trans ?_ (by assumption)))⟩
  · have Hs := Lib.hid hs
    have hd : (stmE n l != 0) = true := by simp [hs]
    clear hs
    go_wp2_with fail
    go_ret
    exact ⟨by rw [blE_no Hs.out]; rfl, (by repeat (first | exact Ext.refl _ | assumption | refine Ext.alloc ?_ _ | refine Ext.drew ?_ | refine Ext.drewN ?_ _ | refine Ext.setCell ?_ (by first | (simp; done) | (simp; omega) | omega) _ | refine Ext.trans ?_ (by assumption)))⟩

set_option maxHeartbeats 1000000 in
theorem spec_l21Most (s k : Value) (n : Net) (w : World) (h : NetIn w s k n) (hf : SetsFit n.sets) : Calls Try.prog 194 #[.agg #[s, k]] w (RetX (.int .i64 (blN n)) w) := by
  obtain ⟨A, c, rfl, hn, hc⟩ := h.1.len
  have H := Lib.hid h
  have Hf := Lib.hid hf
  clear h hf
  go_enter Try.func194, Try.ntmps194
  go_wp2_with fail
  go_loopg [3, 4] n.sets.length (fun m t i wr => ∃ j : Nat, j + m = n.sets.length ∧ i = .int .i64 j ∧ t = .int .i64 (blTo n.sets j) ∧ Ext w wr ∧ Boxed wr w.heap.size [.slice A n.sets.length c, k])
  case atStart => exact ⟨0, by omega, rfl, rfl, (by repeat (first | exact Ext.refl _ | assumption | refine Ext.alloc ?_ _ | refine Ext.drew ?_ | refine Ext.drewN ?_ _ | refine Ext.setCell ?_ (by first | (simp; done) | (simp; omega) | omega) _ | refine Ext.trans ?_ (by assumption))), Boxed.new w _ _⟩
  case round =>
    obtain ⟨j, hj, rfl, rfl, hx, hbb⟩ := hrel
    have hb := hbb; have hb0 := hb.at0; have hb1 := hb.at1; have hbg := hb.1; have Hhb := Lib.hid hb; clear hb
    clear hbb
    by_cases hlt : j < n.sets.length
    · obtain ⟨b, off, u, rfl, _, hbl, h1, h2⟩ := (H.out.1.ext hx (Nat.le_refl _)).at_ hlt
      obtain ⟨A2, c2, rfl, hn2, hc2⟩ := h2.len
      obtain ⟨p1, p2⟩ := bl_fit Hf.out hlt
      have p3 := blTo_bd n.sets j
      clear h2
      by_cases h0 : (setAt n.sets j).length ≤ 1
      · have H0 : Hid (blTo n.sets (j + 1) = blTo n.sets j) := Lib.hid (by
          by_cases e : (setAt n.sets j).length = 0
          · exact blTo_zero e
          · rw [blTo_pos e, show ((setAt n.sets j).length : Int) = 1 by omega, Int.mul_one]; omega)
        have T3 : ¬ 1 < (setAt n.sets j).length := by omega
        have T4 : ¬ (1 : Int) < ((setAt n.sets j).length : Int) := by omega
        go_wp2_with fail
        all_goals
          go_roundg (n.sets.length - (j + 1))
          case measure => omega
          case rel => exact ⟨j + 1, by omega, by go_num, by rw [H0.out] <;> first | rfl | (congr 1; first | omega | (unfold wrap64; omega) | (unfold wrap64; split <;> omega)), (by repeat (first | exact Ext.refl _ | assumption | refine Ext.alloc ?_ _ | refine Ext.drew ?_ | refine Ext.drewN ?_ _ | refine Ext.setCell ?_ (by first | (simp; done) | (simp; omega) | omega) _ | refine Ext.trans ?_ (by assumption))), Hhb.out⟩
      · have H0 := Lib.hid (blTo_pos (l := n.sets) (k := j) (by omega))
        have T3 : 1 < (setAt n.sets j).length := by omega
        have T4 : (1 : Int) < ((setAt n.sets j).length : Int) := by omega
        go_wp2_with fail
        all_goals
          go_roundg (n.sets.length - (j + 1))
          case measure => omega
          case rel => exact ⟨j + 1, by omega, by go_num, by rw [H0.out] <;> first | rfl | (congr 1; first | omega | (unfold wrap64; omega) | (unfold wrap64; split <;> omega)), (by repeat (first | exact Ext.refl _ | assumption | refine Ext.alloc ?_ _ | refine Ext.drew ?_ | refine Ext.drewN ?_ _ | refine Ext.setCell ?_ (by first | (simp; done) | (simp; omega) | omega) _ | refine Ext.trans ?_ (by assumption))), Hhb.out⟩
    · obtain rfl : j = n.sets.length := by omega
      go_wp2_with fail
      go_ret
      exact ⟨rfl, (by repeat (first | exact Ext.refl _ | assumption | refine Ext.alloc ?_ _ | refine Ext.drew ?_ | refine Ext.drewN ?_ _ | refine Ext.setCell ?_ (by first | (simp; done) | (simp; omega) | omega) _ | refine Ext.trans ?_ (by assumption)))⟩
set_option maxHeartbeats 1000000 in
theorem spec_l21Code (s k v : Value) (n : Net) (l : List Int) (w : World) (h : NetIn w s k n) (hl : Ints w 0 w.heap.size v l) :
    Calls Try.prog 126 #[.agg #[s, k], v] w (RetX (.int .i64 (blE n l)) w) := by
  obtain ⟨Al, cl, rfl, hnl, hcl⟩ := hl.len
  have H := Lib.hid h
  have Hl := Lib.hid hl
  clear h hl
  go_enter Try.func126, Try.ntmps126
  go_wp2_with fail
  refine Calls.mono (spec_IsNetwork _ k n _ (H.out.up (by repeat (first | exact Ext.refl _ | assumption | refine Ext.alloc ?_ _ | refine Ext.drew ?_ | refine Ext.drewN ?_ _ | refine Ext.setCell ?_ (by first | (simp; done) | (simp; omega) | omega) _ | refine Ext.trans ?_ (by assumption))))) ?_
  rintro e w1 ⟨rfl, hx1⟩
  have hb := (Boxed.new w [s, k] 27).ext hx1; have hb0 := hb.at0; have hb1 := hb.at1; have hbg := hb.1; have Hhb := Lib.hid hb; clear hb
  have hx : Ext w w1 := (by repeat (first | exact Ext.refl _ | assumption | refine Ext.alloc ?_ _ | refine Ext.drew ?_ | refine Ext.drewN ?_ _ | refine Ext.setCell ?_ (by first | (simp; done) | (simp; omega) | omega) _ | refine Ext.trans ?_ (by assumption)))
  have Hbx : Hid (Boxed w1 w.heap.size [s, k]) := Lib.hid Hhb.out
  clear hx1
  by_cases hok : NetOk n
  · have Hok := Lib.hid hok
    have hbt := B_true hok
    rw [hbt]
    clear hok hbt
    go_wp2_with fail
    refine Calls.mono (spec_l21List _ k _ n l _ (H.out.up (by repeat (first | exact Ext.refl _ | assumption | refine Ext.alloc ?_ _ | refine Ext.drew ?_ | refine Ext.drewN ?_ _ | refine Ext.setCell ?_ (by first | (simp; done) | (simp; omega) | omega) _ | refine Ext.trans ?_ (by assumption)))) (Hl.out.up (by repeat (first | exact Ext.refl _ | assumption | refine Ext.alloc ?_ _ | refine Ext.drew ?_ | refine Ext.drewN ?_ _ | refine Ext.setCell ?_ (by first | (simp; done) | (simp; omega) | omega) _ | refine Ext.trans ?_ (by assumption)))) Hok.out) ?_
    rintro e w2 ⟨rfl, hx2⟩
    have hxw2 : Ext w w2 := (by repeat (first | exact Ext.refl _ | assumption | refine Ext.alloc ?_ _ | refine Ext.drew ?_ | refine Ext.drewN ?_ _ | refine Ext.setCell ?_ (by first | (simp; done) | (simp; omega) | omega) _ | refine Ext.trans ?_ (by assumption)))
    have mb := Hbx.out.ext hx2; have mb0 := mb.at0; have mb1 := mb.at1; have mbg := mb.1; have Hmb := Lib.hid mb; clear mb
    clear hb0 hb1 hbg Hhb Hbx hx2
    by_cases hs : StmOk n l
    · have Hs := Lib.hid (stm_ok Hok.out hs)
      have hbt := B_true hs
      rw [hbt]
      clear hs hbt
      go_wp2_with fail
      refine Calls.mono (spec_l21Most _ k n _ (H.out.up (by repeat (first | exact Ext.refl _ | assumption | refine Ext.alloc ?_ _ | refine Ext.drew ?_ | refine Ext.drewN ?_ _ | refine Ext.setCell ?_ (by first | (simp; done) | (simp; omega) | omega) _ | refine Ext.trans ?_ (by assumption)))) (SetsFit.of Hok.out)) ?_
      rintro e w3 ⟨rfl, hx3⟩
      by_cases hb : blN n ≤ 256
      · have T1 : decide (256 < blN n) = false := decide_eq_false (by omega)
        have Hb := Lib.hid hb
        clear hb
        go_wp2_with fail
        go_ret
        exact ⟨by rw [blE_ok Hs.out Hb.out]; rfl, (by repeat (first | exact Ext.refl _ | assumption | refine Ext.alloc ?_ _ | refine Ext.drew ?_ | refine Ext.drewN ?_ _ | refine Ext.setCell ?_ (by first | (simp; done) | (simp; omega) | omega) _ | refine Ext.trans ?_ (by assumption)))⟩
      · have T1 : decide (256 < blN n) = true := decide_eq_true (by omega)
        have Hb := Lib.hid hb
        clear hb
        go_wp2_with fail
        go_ret
        exact ⟨by rw [blE_big Hs.out (show ¬ blN n ≤ 256 by have := Hb.out; omega)]; rfl, (by repeat (first | exact Ext.refl _ | assumption | refine Ext.alloc ?_ _ | refine Ext.drew ?_ | refine Ext.drewN ?_ _ | refine Ext.setCell ?_ (by first | (simp; done) | (simp; omega) | omega) _ | refine Ext.trans ?_ (by assumption)))⟩
    · have Hs := Lib.hid (stm_bad Hok.out hs)
      have hbt := B_false hs
      rw [hbt]
      clear hs hbt
      go_wp2_with fail
      go_ret
      exact ⟨by rw [blE_no (by rw [Hs.out]; omega), Hs.out]; rfl, (by repeat (first | exact Ext.refl _ | assumption | refine Ext.alloc ?_ _ | refine Ext.drew ?_ | refine Ext.drewN ?_ _ | refine Ext.setCell ?_ (by first | (simp; done) | (simp; omega) | omega) _ | refine Ext.trans ?_ (by assumption)))⟩
  · have Hs := Lib.hid (stm_net (l := l) hok)
    have hbt := B_false hok
    rw [hbt]
    clear hok hbt
    go_wp2_with fail
    go_ret
    exact ⟨by rw [blE_no (by rw [Hs.out]; omega), Hs.out]; rfl, (by repeat (first | exact Ext.refl _ | assumption | refine Ext.alloc ?_ _ | refine Ext.drew ?_ | refine Ext.drewN ?_ _ | refine Ext.setCell ?_ (by first | (simp; done) | (simp; omega) | omega) _ | refine Ext.trans ?_ (by assumption)))⟩
end Go.Proofs.Ytfajmlkiidnhlaa
