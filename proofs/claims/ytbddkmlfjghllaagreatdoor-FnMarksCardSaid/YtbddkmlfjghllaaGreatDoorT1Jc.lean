/- Texts merged (a claim holds at most sixty files): Jc, Je, Kb. -/
import Derived.Test.YtbddkmlfjghllaaGreatDoorT1Jb
import Derived.Test.YtbddkmlfjghllaaGreatDoorT1Jd
import Derived.Test.YtbddkmlfjghllaaGreatDoorT1Sg
import Derived.Test.YtbddkmlfjghllaaGreatDoorT1A
import Derived.Deep.RegionHeld3
/- Contracts: marks compared; lists of marks that are as told. -/
namespace Go.Proofs.YtbddkmlfjghllaaGreatDoor
set_option linter.unusedVariables false
set_option linter.unusedSimpArgs false
open Go.RowKit
attribute [local go_sem] cell_onto

/-- names short enough to be reckoned with -/
def NSm (l : List Nsp) : Prop := ∀ i, i < l.length → (nspAt l i).nm.size ≤ 1048576
set_option maxHeartbeats 400000 in
theorem isNaN_string (x : ByteArray) (w : World) : Calls Tryz.prog 154 #[.string x] w (RetS (.bool false) w) := by
  go_enter Tryz.func154, Tryz.ntmps154
  go_wp2_with fail
  go_ret
  exact ⟨by simp, rfl⟩
set_option maxHeartbeats 1000000 in
theorem cmp_CompareS (x y : ByteArray) (w : World) : Calls Tryz.prog 93 #[.string x, .string y] w (RetS (.int .i64 (cmpS x y)) w) := by
  by_cases h1 : sLt x y
  · have T1 := sl_true h1
    have Hv := Lib.hid (cmpS_lt h1)
    rw [Hv.out]
    clear h1
    go_enter Tryz.func93, Tryz.ntmps93
    go_wp2_with (go_at_call 154; refine Calls.mono (isNaN_string _ _) ?_; rintro e w1 ⟨rfl, rfl⟩)
    go_ret
    exact ⟨rfl, rfl⟩
  · have T1 := sl_false h1
    by_cases h2 : sLt y x
    · have T2 := sl_true h2
      have T3 := str_ne (sLt_ne h2).symm
      have Hv := Lib.hid (cmpS_gt h2)
      rw [Hv.out]
      clear h1 h2
      go_enter Tryz.func93, Tryz.ntmps93
      go_wp2_with (go_at_call 154; refine Calls.mono (isNaN_string _ _) ?_; rintro e w1 ⟨rfl, rfl⟩)
      go_ret
      exact ⟨rfl, rfl⟩
    · obtain rfl := sLt_tri h1 h2
      have T3 := str_same x
      have Hv := Lib.hid (cmpS_eq x)
      rw [Hv.out]
      clear h1 h2
      go_enter Tryz.func93, Tryz.ntmps93
      go_wp2_with (go_at_call 154; refine Calls.mono (isNaN_string _ _) ?_; rintro e w1 ⟨rfl, rfl⟩)
      go_ret
      exact ⟨rfl, rfl⟩
set_option maxHeartbeats 1000000 in
theorem cmp_Or2 (x y : Int) (g : Nat) (w : World) (h : Boxed w g [.int .i64 x, .int .i64 y]) : Calls Tryz.prog 92 #[.slice (some ⟨g, 0, none⟩) 2 2] w (RetS (.int .i64 (if x = 0 then y else x)) w) := by
  have h0 := h.at0
  have h1 := h.at1
  have hg := h.1
  clear h
  by_cases e : x = 0
  · subst e
    rw [if_pos rfl]
    by_cases e2 : y = 0
    · subst e2
      go_enter Tryz.func92, Tryz.ntmps92
      go_wp2_with fail
      go_loopg [5, 8] 2 (fun q u5 i wr => ∃ j : Nat, j + q = 2 ∧ i = .int .i64 j ∧ wr = w)
      case atStart => exact ⟨0, rfl, rfl, rfl⟩
      case round =>
        obtain ⟨j, hj, rfl, rfl⟩ := hrel
        match j, hj with
        | 0, _ =>
          go_wp2_with fail
          go_roundg 1
          case measure => omega
          case rel => exact ⟨1, by omega, rfl, rfl⟩
        | 1, _ =>
          go_wp2_with fail
          go_roundg 0
          case measure => omega
          case rel => exact ⟨2, by omega, rfl, rfl⟩
        | n + 3, hj => exact absurd hj (by omega)
        | 2, _ =>
          go_wp2_with fail
          go_ret
          exact ⟨rfl, rfl⟩
    · have e3 : (y != 0) = true := by simpa using e2
      go_enter Tryz.func92, Tryz.ntmps92
      go_wp2_with fail
      go_loopg [5, 8] 2 (fun q u5 i wr => ∃ j : Nat, j ≤ 1 ∧ j + q = 2 ∧ i = .int .i64 j ∧ wr = w)
      case atStart => exact ⟨0, by omega, rfl, rfl, rfl⟩
      case round =>
        obtain ⟨j, hj1, hj, rfl, rfl⟩ := hrel
        match j, hj1 with
        | 0, _ =>
          go_wp2_with fail
          go_roundg 1
          case measure => omega
          case rel => exact ⟨1, by omega, by omega, rfl, rfl⟩
        | 1, _ =>
          go_wp2_with fail
          go_ret
          exact ⟨rfl, rfl⟩
  · have e3 : (x != 0) = true := by simpa using e
    rw [if_neg e]
    go_enter Tryz.func92, Tryz.ntmps92
    go_wp2_with fail
    go_loopg [5, 8] 0 (fun q u5 i wr => i = .int .i64 0 ∧ wr = w)
    case atStart => exact ⟨rfl, rfl⟩
    case round =>
      obtain ⟨rfl, rfl⟩ := hrel
      go_wp2_with fail
      go_ret
      exact ⟨rfl, rfl⟩
theorem ext_keep6 {w w' : World} {p q : Nat} {a b d e : Value} (hx : Ext w w') (hp : p < w.heap.size) (hq : q < w.heap.size) (h0 : w.cell? ⟨p, 0, none⟩ = some a) (h1 : w.cell? ⟨p, 1, none⟩ = some b) (h2 : w.cell? ⟨q, 0, none⟩ = some d) (h3 : w.cell? ⟨q, 1, none⟩ = some e) :
    Ext w w' ∧ w'.cell? ⟨p, 0, none⟩ = some a ∧ w'.cell? ⟨p, 1, none⟩ = some b ∧ w'.cell? ⟨q, 0, none⟩ = some d ∧ w'.cell? ⟨q, 1, none⟩ = some e :=
  ⟨hx, (hx.cell (p := ⟨p, 0, none⟩) hp).trans h0, (hx.cell (p := ⟨p, 1, none⟩) hp).trans h1, (hx.cell (p := ⟨q, 0, none⟩) hq).trans h2, (hx.cell (p := ⟨q, 1, none⟩) hq).trans h3⟩
set_option maxHeartbeats 2000000 in
theorem impl_compareMarks (a b : Nsp) (w : World) : Calls Tryz.prog 47 #[.agg #[.string a.nm, .int .i64 a.fr, .int .i64 a.to], .agg #[.string b.nm, .int .i64 b.fr, .int .i64 b.to]] w (RetX (.int .i64 (cmpM a b)) w) := by
  have Hc := Lib.hid (fun W => cmp_Compare a.fr b.fr W)
  have ec : (if a.fr < b.fr then (-1 : Int) else if b.fr < a.fr then 1 else 0) = cmpI a.fr b.fr := rfl
  have em : cmpM a b = if cmpS a.nm b.nm = 0 then cmpI a.fr b.fr else cmpS a.nm b.nm := rfl
  rw [ec] at Hc
  rw [em]
  clear ec em
  have Hs := Lib.hid (fun W => cmp_CompareS a.nm b.nm W)
  generalize cmpI a.fr b.fr = y at *
  generalize cmpS a.nm b.nm = x at *
  have Ho := Lib.hid (fun g W hb => cmp_Or2 x y g W hb)
  generalize (if x = 0 then y else x) = z at *
  go_enter Tryz.func47, Tryz.ntmps47
  go_wp2_with fail
  obtain ⟨w2, hw2⟩ : ∃ x : World, x = ((w.alloc (.cells #[.string a.nm, .int .i64 a.fr, .int .i64 a.to] 88)).alloc (.cells #[.string b.nm, .int .i64 b.fr, .int .i64 b.to] 88)) := ⟨_, rfl⟩
  have hx2 : Ext w w2 := by rw [hw2]; exact (by repeat (first | exact Ext.refl _ | assumption | refine Ext.alloc ?_ _ | refine Ext.drew ?_ | refine Ext.drewN ?_ _ | refine Ext.setCell ?_ (by first | (simp; done) | (simp; omega) | omega) _ | refine Ext.trans ?_ (by assumption)))
  have hA : Boxed w2 w.heap.size [.string a.nm, .int .i64 a.fr, .int .i64 a.to] := by rw [hw2]; exact (Boxed.new w [.string a.nm, .int .i64 a.fr, .int .i64 a.to] 88).ext ((Ext.refl _).alloc _)
  have hB : Boxed w2 (w.heap.size + 1) [.string b.nm, .int .i64 b.fr, .int .i64 b.to] := by
    rw [hw2]
    have := Boxed.new (w.alloc (.cells #[.string a.nm, .int .i64 a.fr, .int .i64 a.to] 88)) [.string b.nm, .int .i64 b.fr, .int .i64 b.to] 88
    rwa [World.size_alloc] at this
  have a0 := hA.at0
  have a1 := hA.at1
  have ag := hA.1
  have b0 := hB.at0
  have b1 := hB.at1
  have bg := hB.1
  rw [← hw2]
  clear hA hB hw2
  go_region_held3 (fun w' => Ext w2 w' ∧ w'.cell? ⟨w.heap.size, 0, none⟩ = some (.string a.nm) ∧ w'.cell? ⟨w.heap.size, 1, none⟩ = some (.int .i64 a.fr) ∧ w'.cell? ⟨w.heap.size + 1, 0, none⟩ = some (.string b.nm) ∧ w'.cell? ⟨w.heap.size + 1, 1, none⟩ = some (.int .i64 b.fr))
    (exact ext_keep6 (by repeat (first | assumption | exact (by assumption : Ext w2 _ ∧ _).1 | exact Ext.refl _ | refine Ext.drew ?_ | refine Ext.alloc ?_ _)) ag bg a0 a1 b0 b1)
    (first
      | (go_at_call 93; refine Calls.mono (Hs.out _) ?_; rintro e w5 ⟨rfl, rfl⟩)
      | (go_at_call 94; refine Calls.mono (Hc.out _) ?_; rintro e w6 ⟨rfl, rfl⟩)
      | (go_at_call 92; refine Calls.mono (Ho.out _ _ (Boxed.new _ [.int .i64 x, .int .i64 y] 3)) ?_; rintro e w7 ⟨rfl, rfl⟩))
  all_goals
    have hE := (by assumption : Ext w2 _ ∧ _).1
    go_wp2_with fail
    go_ret
    exact ⟨rfl, hx2.trans (by repeat (first | exact hE | refine Ext.alloc ?_ _ | refine Ext.drew ?_ | assumption))⟩
end Go.Proofs.YtbddkmlfjghllaaGreatDoor

/- Contracts: AreMarks, the program's and the reference's. -/
namespace Go.Proofs.YtbddkmlfjghllaaGreatDoor
set_option linter.unusedVariables false
set_option linter.unusedSimpArgs false
open Go.RowKit
attribute [local go_sem] cell_onto

theorem impl_isSmall_b {s : ByteArray} {k : Int} {b : Bool} (hb : B (NameOk s k) = b) (w : World) (hk : k ≤ 9223372036854775807) : Calls Tryz.prog 43 #[.string s, .int .i64 k] w (RetX (.bool b) w) := by
  subst hb; exact impl_isSmall s k w hk
theorem cmpM_ge {a b : Nsp} (h : ¬ MkLt a b) : decide (0 ≤ cmpM a b) = true := decide_eq_true (by
  rcases Int.lt_or_le (cmpM a b) 0 with h1 | h1
  · exact absurd ((cmpM_neg a b).1 h1) h
  · exact h1)
theorem cmpM_lt {a b : Nsp} (h : MkLt a b) : decide (0 ≤ cmpM a b) = false := decide_eq_false (by have := (cmpM_neg a b).2 h; omega)
set_option maxRecDepth 100000 in
set_option maxHeartbeats 4000000 in
theorem impl_AreMarks (v : Value) (l : List Nsp) (w : World) (h : Nsps w 0 w.heap.size v l) : Calls Tryz.prog 20 #[v] w (RetX (.bool (B (MksOk l))) w) := by
  obtain ⟨A, c, rfl, hn, hc⟩ := h.len
  have H := Lib.hid h
  clear h
  go_enter Tryz.func20, Tryz.ntmps20
  go_wp2_with fail
  go_loopg [3, 4, 7] l.length (fun q u3 u4 i wr => ∃ j : Nat, j + q = l.length ∧ i = .int .i64 j ∧ Ext w wr ∧ ∀ i, i < j → MkStep l i)
  case atStart => exact ⟨0, by omega, rfl, Ext.refl _, fun i hi => absurd hi (by omega)⟩
  case round =>
    obtain ⟨j, hj, rfl, hx, hok⟩ := hrel
    have Hok := Lib.hid hok
    clear hok
    by_cases hlt : j < l.length
    · obtain ⟨b, off, rfl, _, hb, h1, h2, h3⟩ := (H.out.ext hx (Nat.le_refl _)).at_ hlt
      have hbr : b < wr.heap.size := Nat.lt_of_lt_of_le hb hx.size
      have hbr1 : b < wr.heap.size + 1 := by omega
      by_cases hs1 : NameOk (nspAt l j).nm 12
      · have Hs1 := Lib.hid (B_true hs1)
        by_cases hs2 : DayOk (nspAt l j).fr
        · have Hs2 := Lib.hid (B_true hs2)
          by_cases hs3 : DayOk (nspAt l j).to
          · have Hs3 := Lib.hid (B_true hs3)
            by_cases hs4 : (nspAt l j).fr ≤ (nspAt l j).to
            · have Hn := Lib.hid (show NspOk (nspAt l j) from ⟨hs1, hs2, hs3, hs4⟩)
              have d4 : decide ((nspAt l j).to < (nspAt l j).fr) = false := decide_eq_false (by omega)
              clear hs1 hs2 hs3
              by_cases h0 : 0 < j
              · have hb0 : decide ((0 : Int) < (j : Int)) = true := by simp; omega
                obtain ⟨b', off', e, _, _, k1, k2, k3⟩ := (H.out.ext hx (Nat.le_refl _)).at_ (i := j - 1) (by omega)
                injection e with e
                injection e with e1 e2
                subst e1 e2
                by_cases hlt2 : MkLt (nspAt l (j - 1)) (nspAt l j)
                · have d5 := cmpM_lt hlt2
                  have Hl := Lib.hid hlt2
                  clear hlt2
                  go_wp2_with fail
                  (refine wp_region_onto prog_mixed (by kernel_rfl) ?_; (repeat (go_big_quiet_step ((first | (go_at_call 43; exact onto_callX (impl_isSmall_b Hs1.out _ (by decide))) | (go_at_call 42; first | with_reducible exact onto_callS (impl_isDay_b Hs2.out _) | with_reducible exact onto_callS (impl_isDay_b Hs3.out _)) | (go_at_call 47; exact onto_callX (impl_compareMarks (nspAt l (j - 1)) (nspAt l j) _)))))); refine onto_end ?_; intro w1 hx1)
                  go_wp2_with fail
                  go_roundg (l.length - (j + 1))
                  case measure => omega
                  case rel => exact ⟨j + 1, by omega, by go_num, (by repeat (first | exact Ext.refl _ | assumption | refine Ext.alloc ?_ _ | refine Ext.drew ?_ | refine Ext.drewN ?_ _ | refine Ext.setCell ?_ (by first | (simp; done) | (simp; omega) | omega) _ | refine Ext.trans ?_ (by assumption))), mks_step Hok.out ⟨Hn.out, fun _ => Hl.out⟩⟩
                · have d5 := cmpM_ge hlt2
                  have Hl := Lib.hid hlt2
                  clear hlt2
                  go_wp2_with fail
                  (refine wp_region_onto prog_mixed (by kernel_rfl) ?_; (repeat (go_big_quiet_step ((first | (go_at_call 43; exact onto_callX (impl_isSmall_b Hs1.out _ (by decide))) | (go_at_call 42; first | with_reducible exact onto_callS (impl_isDay_b Hs2.out _) | with_reducible exact onto_callS (impl_isDay_b Hs3.out _)) | (go_at_call 47; exact onto_callX (impl_compareMarks (nspAt l (j - 1)) (nspAt l j) _)))))); refine onto_end ?_; intro w1 hx1)
                  go_wp2_with fail
                  go_ret
                  exact ⟨ret_bool (B_false (fun h => Hl.out ((h.2 j hlt).2 h0))).symm, (by repeat (first | exact Ext.refl _ | assumption | refine Ext.alloc ?_ _ | refine Ext.drew ?_ | refine Ext.drewN ?_ _ | refine Ext.setCell ?_ (by first | (simp; done) | (simp; omega) | omega) _ | refine Ext.trans ?_ (by assumption)))⟩
              · have hb0 : decide ((0 : Int) < (j : Int)) = false := by simp; omega
                go_wp2_with fail
                (refine wp_region_onto prog_mixed (by kernel_rfl) ?_; (repeat (go_big_quiet_step ((first | (go_at_call 43; exact onto_callX (impl_isSmall_b Hs1.out _ (by decide))) | (go_at_call 42; first | with_reducible exact onto_callS (impl_isDay_b Hs2.out _) | with_reducible exact onto_callS (impl_isDay_b Hs3.out _)))))); refine onto_end ?_; intro w1 hx1)
                go_wp2_with fail
                go_roundg (l.length - (j + 1))
                case measure => omega
                case rel => exact ⟨j + 1, by omega, by go_num, (by repeat (first | exact Ext.refl _ | assumption | refine Ext.alloc ?_ _ | refine Ext.drew ?_ | refine Ext.drewN ?_ _ | refine Ext.setCell ?_ (by first | (simp; done) | (simp; omega) | omega) _ | refine Ext.trans ?_ (by assumption))), mks_step Hok.out ⟨Hn.out, fun hh => absurd hh h0⟩⟩
            · have d4 : decide ((nspAt l j).to < (nspAt l j).fr) = true := decide_eq_true (by omega)
              go_wp2_with fail
              (refine wp_region_onto prog_mixed (by kernel_rfl) ?_; (repeat (go_big_quiet_step ((first | (go_at_call 43; exact onto_callX (impl_isSmall_b Hs1.out _ (by decide))) | (go_at_call 42; first | with_reducible exact onto_callS (impl_isDay_b Hs2.out _) | with_reducible exact onto_callS (impl_isDay_b Hs3.out _)))))); refine onto_end ?_; intro w1 hx1)
              go_wp2_with fail
              go_ret
              exact ⟨ret_bool (B_false (fun h => by have := (h.2 j hlt).1.2.2.2; omega)).symm, (by repeat (first | exact Ext.refl _ | assumption | refine Ext.alloc ?_ _ | refine Ext.drew ?_ | refine Ext.drewN ?_ _ | refine Ext.setCell ?_ (by first | (simp; done) | (simp; omega) | omega) _ | refine Ext.trans ?_ (by assumption)))⟩
          · have Hs3 := Lib.hid (B_false hs3)
            have Hs0 := Lib.hid hs3
            clear hs1 hs2 hs3
            go_wp2_with fail
            (refine wp_region_onto prog_mixed (by kernel_rfl) ?_; (repeat (go_big_quiet_step ((first | (go_at_call 43; exact onto_callX (impl_isSmall_b Hs1.out _ (by decide))) | (go_at_call 42; first | with_reducible exact onto_callS (impl_isDay_b Hs2.out _) | with_reducible exact onto_callS (impl_isDay_b Hs3.out _)))))); refine onto_end ?_; intro w1 hx1)
            go_wp2_with fail
            go_ret
            exact ⟨ret_bool (B_false (fun h => Hs0.out (h.2 j hlt).1.2.2.1)).symm, (by repeat (first | exact Ext.refl _ | assumption | refine Ext.alloc ?_ _ | refine Ext.drew ?_ | refine Ext.drewN ?_ _ | refine Ext.setCell ?_ (by first | (simp; done) | (simp; omega) | omega) _ | refine Ext.trans ?_ (by assumption)))⟩
        · have Hs2 := Lib.hid (B_false hs2)
          have Hs0 := Lib.hid hs2
          clear hs1 hs2
          go_wp2_with fail
          (refine wp_region_onto prog_mixed (by kernel_rfl) ?_; (repeat (go_big_quiet_step ((first | (go_at_call 43; exact onto_callX (impl_isSmall_b Hs1.out _ (by decide))) | (go_at_call 42; exact onto_callS (impl_isDay_b Hs2.out _)))))); refine onto_end ?_; intro w1 hx1)
          go_wp2_with fail
          go_ret
          exact ⟨ret_bool (B_false (fun h => Hs0.out (h.2 j hlt).1.2.1)).symm, (by repeat (first | exact Ext.refl _ | assumption | refine Ext.alloc ?_ _ | refine Ext.drew ?_ | refine Ext.drewN ?_ _ | refine Ext.setCell ?_ (by first | (simp; done) | (simp; omega) | omega) _ | refine Ext.trans ?_ (by assumption)))⟩
      · have Hs1 := Lib.hid (B_false hs1)
        have Hs0 := Lib.hid hs1
        clear hs1
        go_wp2_with fail
        (refine wp_region_onto prog_mixed (by kernel_rfl) ?_; (repeat (go_big_quiet_step ((go_at_call 43; exact onto_callX (impl_isSmall_b Hs1.out _ (by decide)))))); refine onto_end ?_; intro w1 hx1)
        go_wp2_with fail
        go_ret
        exact ⟨ret_bool (B_false (fun h => Hs0.out (h.2 j hlt).1.1)).symm, (by repeat (first | exact Ext.refl _ | assumption | refine Ext.alloc ?_ _ | refine Ext.drew ?_ | refine Ext.drewN ?_ _ | refine Ext.setCell ?_ (by first | (simp; done) | (simp; omega) | omega) _ | refine Ext.trans ?_ (by assumption)))⟩
    · obtain rfl : j = l.length := by omega
      go_wp2_with fail
      go_ret
      refine ⟨ret_bool (B_eq ?_), (by repeat (first | exact Ext.refl _ | assumption | refine Ext.alloc ?_ _ | refine Ext.drew ?_ | refine Ext.drewN ?_ _ | refine Ext.setCell ?_ (by first | (simp; done) | (simp; omega) | omega) _ | refine Ext.trans ?_ (by assumption)))⟩
      simp only [decide_eq_true_eq]
      exact ⟨fun h => ⟨by omega, Hok.out⟩, fun h => by have := h.1; omega⟩
set_option maxHeartbeats 1000000 in
theorem spec_l13Span (a b : Int) (w : World) : Calls Tryz.prog 95 #[.int .i64 a, .int .i64 b] w (RetX (.bool (B (SpOk ⟨a, b⟩))) w) := by
  go_enter Tryz.func95, Tryz.ntmps95
  go_wp2_with fail
  refine Calls.mono (spec_l02Span a b _) ?_
  rintro e w1 ⟨rfl, hx1⟩
  go_wp2_with fail
  go_ret
  exact ⟨rfl, (by repeat (first | exact Ext.refl _ | assumption | refine Ext.alloc ?_ _ | refine Ext.drew ?_ | refine Ext.drewN ?_ _ | refine Ext.setCell ?_ (by first | (simp; done) | (simp; omega) | omega) _ | refine Ext.trans ?_ (by assumption)))⟩
theorem spec_l13Span_b {x y : Int} {b : Bool} (hb : B (SpOk ⟨x, y⟩) = b) (w : World) : Calls Tryz.prog 95 #[.int .i64 x, .int .i64 y] w (RetX (.bool b) w) := by
  subst hb; exact spec_l13Span x y w
theorem spec_l01Name_b {s : ByteArray} {k : Int} {b : Bool} (hb : B (NameOk s k) = b) (w : World) (hs : s.size ≤ 9223372036854775807) : Calls Tryz.prog 49 #[.string s, .int .i64 k] w (RetS (.bool b) w) := by
  subst hb; exact spec_l01Name s k w hs
set_option maxRecDepth 100000 in
set_option maxHeartbeats 4000000 in
theorem spec_AreMarks (v : Value) (l : List Nsp) (w : World) (h : Nsps w 0 w.heap.size v l) (hsm : NSm l) : Calls Tryz.prog 48 #[v] w (RetX (.bool (B (MksOk l))) w) := by
  obtain ⟨A, c, rfl, hn, hc⟩ := h.len
  have H := Lib.hid h
  have Hsm := Lib.hid hsm
  clear h hsm
  go_enter Tryz.func48, Tryz.ntmps48
  go_wp2_with fail
  go_loopg [3, 4] l.length (fun q i u4 wr => ∃ j : Nat, j + q = l.length ∧ i = .int .i64 j ∧ Ext w wr ∧ ∀ i, i < j → MkStep l i)
  case atStart => exact ⟨0, by omega, rfl, Ext.refl _, fun i hi => absurd hi (by omega)⟩
  case round =>
    obtain ⟨j, hj, rfl, hx, hok⟩ := hrel
    have Hok := Lib.hid hok
    clear hok
    by_cases hlt : j < l.length
    · obtain ⟨b, off, rfl, _, hb, h1, h2, h3⟩ := (H.out.ext hx (Nat.le_refl _)).at_ hlt
      have hbr : b < wr.heap.size := Nat.lt_of_lt_of_le hb hx.size
      have hbr1 : b < wr.heap.size + 1 := by omega
      have hsz := Hsm.out j hlt
      by_cases hs1 : NameOk (nspAt l j).nm 12
      case neg =>
        have Hs1 := Lib.hid (B_false hs1)
        have Hs0 := Lib.hid hs1
        clear hs1
        go_wp2_with fail
        refine Calls.mono (spec_l01Name_b Hs1.out _ (by omega)) ?_
        rintro e w1 ⟨rfl, rfl⟩
        go_wp2_with fail
        go_ret
        exact ⟨ret_bool (B_false (fun h => Hs0.out (h.2 j hlt).1.1)).symm, (by repeat (first | exact Ext.refl _ | assumption | refine Ext.alloc ?_ _ | refine Ext.drew ?_ | refine Ext.drewN ?_ _ | refine Ext.setCell ?_ (by first | (simp; done) | (simp; omega) | omega) _ | refine Ext.trans ?_ (by assumption)))⟩
      have Hs1 := Lib.hid (B_true hs1)
      by_cases hs2 : SpOk ⟨(nspAt l j).fr, (nspAt l j).to⟩
      case neg =>
        have Hs2 := Lib.hid (B_false hs2)
        have Hs0 := Lib.hid hs2
        clear hs1 hs2
        go_wp2_with fail
        refine Calls.mono (spec_l01Name_b Hs1.out _ (by omega)) ?_
        rintro e w1 ⟨rfl, rfl⟩
        go_wp2_with fail
        refine Calls.mono (spec_l13Span_b Hs2.out _) ?_
        rintro e w1 ⟨rfl, hx1⟩
        go_wp2_with fail
        go_ret
        exact ⟨ret_bool (B_false (fun h => Hs0.out (h.2 j hlt).1.2)).symm, (by repeat (first | exact Ext.refl _ | assumption | refine Ext.alloc ?_ _ | refine Ext.drew ?_ | refine Ext.drewN ?_ _ | refine Ext.setCell ?_ (by first | (simp; done) | (simp; omega) | omega) _ | refine Ext.trans ?_ (by assumption)))⟩
      have Hs2 := Lib.hid (B_true hs2)
      have Hn := Lib.hid (show NspOk (nspAt l j) from ⟨hs1, hs2⟩)
      clear hs1 hs2
      go_wp2_with fail
      refine Calls.mono (spec_l01Name_b Hs1.out _ (by omega)) ?_
      rintro e w1 ⟨rfl, rfl⟩
      go_wp2_with fail
      refine Calls.mono (spec_l13Span_b Hs2.out _) ?_
      rintro e w1 ⟨rfl, hx1⟩
      have bx := (Boxed.new wr [.string (nspAt l j).nm, .int .i64 (nspAt l j).fr, .int .i64 (nspAt l j).to] 88).ext hx1; have bx0 := bx.at0; have bx1 := bx.at1; have bx2 := bx.at2; have bxg := bx.1; have Hbx := Lib.hid bx; clear bx
      have hxr : Ext wr w1 := (by repeat (first | exact Ext.refl _ | assumption | refine Ext.alloc ?_ _ | refine Ext.drew ?_ | refine Ext.drewN ?_ _ | refine Ext.setCell ?_ (by first | (simp; done) | (simp; omega) | omega) _ | refine Ext.trans ?_ (by assumption)))
      have hx2 : Ext w w1 := hx.trans hxr
      have hbr2 : b < w1.heap.size := Nat.lt_of_lt_of_le hbr hxr.size
      clear hx1 h1 h2 h3
      by_cases h0 : 0 < j
      · have hb0 : decide ((0 : Int) < (j : Int)) = true := by simp; omega
        obtain ⟨b', off', e, _, _, k1, k2, k3⟩ := (H.out.ext hx2 (Nat.le_refl _)).at_ (i := j - 1) (by omega)
        injection e with e
        injection e with e1 e2
        subst e1 e2
        by_cases hs : sLt (nspAt l j).nm (nspAt l (j - 1)).nm
        · have T1 := sl_true hs
          have Hl := Lib.hid (show ¬ MkLt (nspAt l (j - 1)) (nspAt l j) from fun hh => by
            rcases hh with hh | ⟨e, _⟩
            · exact sLt_asym hh hs
            · rw [e] at hs; exact sLt_irr _ hs)
          clear hs
          go_wp2_with fail
          (refine wp_region_onto prog_mixed (by kernel_rfl) ?_; (repeat (go_big_quiet_step ((fail)))); refine onto_end ?_; intro w2 hx3)
          go_wp2_with fail
          go_ret
          exact ⟨ret_bool (B_false (fun h => Hl.out ((h.2 j hlt).2 h0))).symm, (by repeat (first | exact Ext.refl _ | assumption | refine Ext.alloc ?_ _ | refine Ext.drew ?_ | refine Ext.drewN ?_ _ | refine Ext.setCell ?_ (by first | (simp; done) | (simp; omega) | omega) _ | refine Ext.trans ?_ (by assumption)))⟩
        · have T1 := sl_false hs
          by_cases he : (nspAt l j).nm = (nspAt l (j - 1)).nm
          · have T2 := str_is he
            by_cases hf : (nspAt l j).fr ≤ (nspAt l (j - 1)).fr
            · have T3 : decide ((nspAt l j).fr ≤ (nspAt l (j - 1)).fr) = true := decide_eq_true hf
              have Hl := Lib.hid (show ¬ MkLt (nspAt l (j - 1)) (nspAt l j) from fun hh => by
                rcases hh with hh | ⟨_, hh⟩
                · rw [he] at hh; exact sLt_irr _ hh
                · omega)
              have He := Lib.hid he
              clear hs he
              go_wp2_with fail
              (refine wp_region_onto prog_mixed (by kernel_rfl) ?_; (repeat (go_big_quiet_step ((fail)))); refine onto_end ?_; intro w2 hx3)
              go_wp2_with fail
              go_ret
              exact ⟨ret_bool (B_false (fun h => Hl.out ((h.2 j hlt).2 h0))).symm, (by repeat (first | exact Ext.refl _ | assumption | refine Ext.alloc ?_ _ | refine Ext.drew ?_ | refine Ext.drewN ?_ _ | refine Ext.setCell ?_ (by first | (simp; done) | (simp; omega) | omega) _ | refine Ext.trans ?_ (by assumption)))⟩
            · have T3 : decide ((nspAt l j).fr ≤ (nspAt l (j - 1)).fr) = false := decide_eq_false hf
              have Hl := Lib.hid (show MkLt (nspAt l (j - 1)) (nspAt l j) from .inr ⟨he.symm, by omega⟩)
              clear hs he
              go_wp2_with fail
              (refine wp_region_onto prog_mixed (by kernel_rfl) ?_; (repeat (go_big_quiet_step ((fail)))); refine onto_end ?_; intro w2 hx3)
              go_wp2_with fail
              go_roundg (l.length - (j + 1))
              case measure => omega
              case rel => exact ⟨j + 1, by omega, by go_num, (by repeat (first | exact Ext.refl _ | assumption | refine Ext.alloc ?_ _ | refine Ext.drew ?_ | refine Ext.drewN ?_ _ | refine Ext.setCell ?_ (by first | (simp; done) | (simp; omega) | omega) _ | refine Ext.trans ?_ (by assumption))), mks_step Hok.out ⟨Hn.out, fun _ => Hl.out⟩⟩
          · have T2 := str_ne he
            have Hl := Lib.hid (show MkLt (nspAt l (j - 1)) (nspAt l j) from .inl (Classical.byContradiction fun hh => he (sLt_tri hs hh)))
            clear hs he
            go_wp2_with fail
            (refine wp_region_onto prog_mixed (by kernel_rfl) ?_; (repeat (go_big_quiet_step ((fail)))); refine onto_end ?_; intro w2 hx3)
            go_wp2_with fail
            go_roundg (l.length - (j + 1))
            case measure => omega
            case rel => exact ⟨j + 1, by omega, by go_num, (by repeat (first | exact Ext.refl _ | assumption | refine Ext.alloc ?_ _ | refine Ext.drew ?_ | refine Ext.drewN ?_ _ | refine Ext.setCell ?_ (by first | (simp; done) | (simp; omega) | omega) _ | refine Ext.trans ?_ (by assumption))), mks_step Hok.out ⟨Hn.out, fun _ => Hl.out⟩⟩
      · have hb0 : decide ((0 : Int) < (j : Int)) = false := by simp; omega
        go_wp2_with fail
        (refine wp_region_onto prog_mixed (by kernel_rfl) ?_; (repeat (go_big_quiet_step ((fail)))); refine onto_end ?_; intro w2 hx3)
        go_wp2_with fail
        go_roundg (l.length - (j + 1))
        case measure => omega
        case rel => exact ⟨j + 1, by omega, by go_num, (by repeat (first | exact Ext.refl _ | assumption | refine Ext.alloc ?_ _ | refine Ext.drew ?_ | refine Ext.drewN ?_ _ | refine Ext.setCell ?_ (by first | (simp; done) | (simp; omega) | omega) _ | refine Ext.trans ?_ (by assumption))), mks_step Hok.out ⟨Hn.out, fun hh => absurd hh h0⟩⟩
    · obtain rfl : j = l.length := by omega
      go_wp2_with fail
      go_ret
      refine ⟨ret_bool (B_eq ?_), (by repeat (first | exact Ext.refl _ | assumption | refine Ext.alloc ?_ _ | refine Ext.drew ?_ | refine Ext.drewN ?_ _ | refine Ext.setCell ?_ (by first | (simp; done) | (simp; omega) | omega) _ | refine Ext.trans ?_ (by assumption)))⟩
      simp only [decide_eq_true_eq]
      exact ⟨fun h => ⟨by omega, Hok.out⟩, fun h => by have := h.1; omega⟩
end Go.Proofs.YtbddkmlfjghllaaGreatDoor

/- Contracts: reigns and chanceries, the program's and the reference's. (Printed by genKb.py.) -/
namespace Go.Proofs.YtbddkmlfjghllaaGreatDoor
set_option linter.unusedVariables false
set_option linter.unusedSimpArgs false
open Go.RowKit
attribute [local go_sem] cell_onto

theorem spec_l01Day_b {n : Int} {b : Bool} (hb : B (DayOk n) = b) (w : World) : Calls Tryz.prog 50 #[.int .i64 n] w (RetS (.bool b) w) := by
  subst hb; exact spec_l01Day n w
theorem spec_l01In_k {n lo hi : Int} {b : Bool} (hb : B (lo ≤ n ∧ n ≤ hi) = b) (w : World) : Calls Tryz.prog 51 #[.int .i64 n, .int .i64 lo, .int .i64 hi] w (RetS (.bool b) w) := by
  subst hb; exact spec_l01In n lo hi w
def nspV (x : Nsp) : Value := .agg #[.string x.nm, .int .i64 x.fr, .int .i64 x.to]
set_option maxHeartbeats 2000000 in
theorem impl_isReign (x : Nsp) (w : World) : Calls Tryz.prog 170 #[.agg #[.string x.nm, .int .i64 x.fr, .int .i64 x.to]] w (RetX (.bool (B (NspOk x))) w) := by
  obtain ⟨q1, eq1⟩ : ∃ b, B (NameOk x.nm 12) = b := ⟨_, rfl⟩
  have Hq1 := Lib.hid eq1
  clear eq1
  obtain ⟨q2, eq2⟩ : ∃ b, B (DayOk x.fr) = b := ⟨_, rfl⟩
  have Hq2 := Lib.hid eq2
  clear eq2
  obtain ⟨q3, eq3⟩ : ∃ b, B (DayOk x.to) = b := ⟨_, rfl⟩
  have Hq3 := Lib.hid eq3
  clear eq3
  go_enter Tryz.func170, Tryz.ntmps170
  go_wp2_with fail
  refine Calls.mono (impl_isSmall_b Hq1.out _ (by decide)) ?_
  rintro e w1 ⟨rfl, hx1⟩
  have bx := (Boxed.new w [.string x.nm, .int .i64 x.fr, .int .i64 x.to] 223).ext hx1; have bx0 := bx.at0; have bx1 := bx.at1; have bx2 := bx.at2; have bxg := bx.1; have Hbx := Lib.hid bx; clear bx
  cases q1 with
  | false =>
    go_wp2_with fail
    go_ret
    exact ⟨ret_bool (B_false (fun h => absurd (h.1) (B_not.1 Hq1.out))).symm, (by repeat (first | exact Ext.refl _ | assumption | refine Ext.alloc ?_ _ | refine Ext.drew ?_ | refine Ext.drewN ?_ _ | refine Ext.setCell ?_ (by first | (simp; done) | (simp; omega) | omega) _ | refine Ext.trans ?_ (by assumption)))⟩
  | true =>
    go_wp2_with fail
    refine Calls.mono (impl_isDay_b Hq2.out _) ?_
    rintro e w2 ⟨rfl, rfl⟩
    cases q2 with
    | false =>
      go_wp2_with fail
      go_ret
      exact ⟨ret_bool (B_false (fun h => absurd (h.2.1) (B_not.1 Hq2.out))).symm, (by repeat (first | exact Ext.refl _ | assumption | refine Ext.alloc ?_ _ | refine Ext.drew ?_ | refine Ext.drewN ?_ _ | refine Ext.setCell ?_ (by first | (simp; done) | (simp; omega) | omega) _ | refine Ext.trans ?_ (by assumption)))⟩
    | true =>
      go_wp2_with fail
      refine Calls.mono (impl_isDay_b Hq3.out _) ?_
      rintro e w3 ⟨rfl, rfl⟩
      cases q3 with
      | false =>
        go_wp2_with fail
        go_ret
        exact ⟨ret_bool (B_false (fun h => absurd (h.2.2.1) (B_not.1 Hq3.out))).symm, (by repeat (first | exact Ext.refl _ | assumption | refine Ext.alloc ?_ _ | refine Ext.drew ?_ | refine Ext.drewN ?_ _ | refine Ext.setCell ?_ (by first | (simp; done) | (simp; omega) | omega) _ | refine Ext.trans ?_ (by assumption)))⟩
      | true =>
        by_cases h4 : x.fr ≤ x.to
        · have d4 : decide (x.fr ≤ x.to) = true := decide_eq_true h4
          go_wp2_with fail
          go_ret
          exact ⟨ret_bool (B_true ⟨B_iff.1 Hq1.out, B_iff.1 Hq2.out, B_iff.1 Hq3.out, h4⟩).symm, (by repeat (first | exact Ext.refl _ | assumption | refine Ext.alloc ?_ _ | refine Ext.drew ?_ | refine Ext.drewN ?_ _ | refine Ext.setCell ?_ (by first | (simp; done) | (simp; omega) | omega) _ | refine Ext.trans ?_ (by assumption)))⟩
        · have d4 : decide (x.fr ≤ x.to) = false := decide_eq_false h4
          go_wp2_with fail
          go_ret
          exact ⟨ret_bool (B_false (fun h => by have := h.2.2.2; omega)).symm, (by repeat (first | exact Ext.refl _ | assumption | refine Ext.alloc ?_ _ | refine Ext.drew ?_ | refine Ext.drewN ?_ _ | refine Ext.setCell ?_ (by first | (simp; done) | (simp; omega) | omega) _ | refine Ext.trans ?_ (by assumption)))⟩
set_option maxHeartbeats 2000000 in
theorem spec_l07Reign (x : Nsp) (w : World) (hs : x.nm.size ≤ 1048576) : Calls Tryz.prog 164 #[.agg #[.string x.nm, .int .i64 x.fr, .int .i64 x.to]] w (RetX (.bool (B (NspOk x))) w) := by
  obtain ⟨q1, eq1⟩ : ∃ b, B (NameOk x.nm 12) = b := ⟨_, rfl⟩
  have Hq1 := Lib.hid eq1
  clear eq1
  obtain ⟨q2, eq2⟩ : ∃ b, B (DayOk x.fr) = b := ⟨_, rfl⟩
  have Hq2 := Lib.hid eq2
  clear eq2
  obtain ⟨q3, eq3⟩ : ∃ b, B (DayOk x.to) = b := ⟨_, rfl⟩
  have Hq3 := Lib.hid eq3
  clear eq3
  go_enter Tryz.func164, Tryz.ntmps164
  go_wp2_with fail
  refine Calls.mono (spec_l01Name_b Hq1.out _ (by omega)) ?_
  rintro e w1 ⟨rfl, rfl⟩
  cases q1 with
  | false =>
    go_wp2_with fail
    go_ret
    exact ⟨ret_bool (B_false (fun h => absurd (h.1) (B_not.1 Hq1.out))).symm, (by repeat (first | exact Ext.refl _ | assumption | refine Ext.alloc ?_ _ | refine Ext.drew ?_ | refine Ext.drewN ?_ _ | refine Ext.setCell ?_ (by first | (simp; done) | (simp; omega) | omega) _ | refine Ext.trans ?_ (by assumption)))⟩
  | true =>
    go_wp2_with fail
    refine Calls.mono (spec_l01Day_b Hq2.out _) ?_
    rintro e w2 ⟨rfl, rfl⟩
    cases q2 with
    | false =>
      go_wp2_with fail
      go_ret
      exact ⟨ret_bool (B_false (fun h => absurd (h.2.1) (B_not.1 Hq2.out))).symm, (by repeat (first | exact Ext.refl _ | assumption | refine Ext.alloc ?_ _ | refine Ext.drew ?_ | refine Ext.drewN ?_ _ | refine Ext.setCell ?_ (by first | (simp; done) | (simp; omega) | omega) _ | refine Ext.trans ?_ (by assumption)))⟩
    | true =>
      go_wp2_with fail
      refine Calls.mono (spec_l01Day_b Hq3.out _) ?_
      rintro e w3 ⟨rfl, rfl⟩
      cases q3 with
      | false =>
        go_wp2_with fail
        go_ret
        exact ⟨ret_bool (B_false (fun h => absurd (h.2.2.1) (B_not.1 Hq3.out))).symm, (by repeat (first | exact Ext.refl _ | assumption | refine Ext.alloc ?_ _ | refine Ext.drew ?_ | refine Ext.drewN ?_ _ | refine Ext.setCell ?_ (by first | (simp; done) | (simp; omega) | omega) _ | refine Ext.trans ?_ (by assumption)))⟩
      | true =>
        by_cases h4 : x.fr ≤ x.to
        · have d4 : decide (x.fr ≤ x.to) = true := decide_eq_true h4
          go_wp2_with fail
          go_ret
          exact ⟨ret_bool (B_true ⟨B_iff.1 Hq1.out, B_iff.1 Hq2.out, B_iff.1 Hq3.out, h4⟩).symm, (by repeat (first | exact Ext.refl _ | assumption | refine Ext.alloc ?_ _ | refine Ext.drew ?_ | refine Ext.drewN ?_ _ | refine Ext.setCell ?_ (by first | (simp; done) | (simp; omega) | omega) _ | refine Ext.trans ?_ (by assumption)))⟩
        · have d4 : decide (x.fr ≤ x.to) = false := decide_eq_false h4
          go_wp2_with fail
          go_ret
          exact ⟨ret_bool (B_false (fun h => by have := h.2.2.2; omega)).symm, (by repeat (first | exact Ext.refl _ | assumption | refine Ext.alloc ?_ _ | refine Ext.drew ?_ | refine Ext.drewN ?_ _ | refine Ext.setCell ?_ (by first | (simp; done) | (simp; omega) | omega) _ | refine Ext.trans ?_ (by assumption)))⟩
set_option maxRecDepth 100000 in
set_option maxHeartbeats 4000000 in
theorem impl_AreReigns (v : Value) (l : List Nsp) (w : World) (h : Nsps w 0 w.heap.size v l) : Calls Tryz.prog 118 #[v] w (RetX (.bool (B (RgsOk l))) w) := by
  obtain ⟨A, c, rfl, hn, hc⟩ := h.len
  have H := Lib.hid h
  clear h
  go_enter Tryz.func118, Tryz.ntmps118
  go_wp2_with fail
  go_loopg [3, 4, 7] l.length (fun q u3 u4 i wr => ∃ j : Nat, j + q = l.length ∧ i = .int .i64 j ∧ Ext w wr ∧ ∀ i, i < j → RgStep l i)
  case atStart => exact ⟨0, by omega, rfl, Ext.refl _, fun i hi => absurd hi (by omega)⟩
  case round =>
    obtain ⟨j, hj, rfl, hx, hok⟩ := hrel
    have Hok := Lib.hid hok
    clear hok
    by_cases hlt : j < l.length
    · obtain ⟨b, off, rfl, _, hb, h1, h2, h3⟩ := (H.out.ext hx (Nat.le_refl _)).at_ hlt
      have hbr : b < wr.heap.size := Nat.lt_of_lt_of_le hb hx.size
      have hbr1 : b < wr.heap.size + 1 := by omega
      have hj0 : (0 : Int) ≤ (j : Int) := by omega
      have hji : (j : Int) < (l.length : Int) := by omega
      obtain ⟨q1, e1⟩ : ∃ b, B (NspOk (nspAt l j)) = b := ⟨_, rfl⟩
      have Hq := Lib.hid (show ∀ W, Calls Tryz.prog 170 #[.agg #[.string (nspAt l j).nm, .int .i64 (nspAt l j).fr, .int .i64 (nspAt l j).to]] W (RetX (.bool q1) W) from fun W => by subst e1; exact impl_isReign (nspAt l j) W)
      have H1 := Lib.hid e1
      clear e1
      cases q1 with
      | false =>
        go_wp2_with fail
        (refine wp_region_onto prog_mixed (by kernel_rfl) ?_; (repeat (go_big_quiet_step ((go_at_call 170; exact onto_callX (Hq.out _))))); refine onto_end ?_; intro w1 hx1)
        go_wp2_with fail
        go_ret
        exact ⟨ret_bool (B_false (fun h => B_not.1 H1.out (h.2 j hlt).1)).symm, (by repeat (first | exact Ext.refl _ | assumption | refine Ext.alloc ?_ _ | refine Ext.drew ?_ | refine Ext.drewN ?_ _ | refine Ext.setCell ?_ (by first | (simp; done) | (simp; omega) | omega) _ | refine Ext.trans ?_ (by assumption)))⟩
      | true =>
        by_cases h0 : 0 < j
        · have hb0 : decide ((0 : Int) < (j : Int)) = true := by simp; omega
          obtain ⟨b', off', e, _, _, k1, k2, k3⟩ := (H.out.ext hx (Nat.le_refl _)).at_ (i := j - 1) (by omega)
          injection e with e
          injection e with e1 e2
          subst e1 e2
          have hq0 : (0 : Int) ≤ (j : Int) - 1 := by omega
          have hq1 : (j : Int) - 1 < (l.length : Int) := by omega
          have hq2 : ((j : Int) - 1).toNat = j - 1 := by omega
          by_cases hf : (nspAt l j).fr < (nspAt l (j - 1)).fr
          · have T3 : decide ((nspAt l j).fr < (nspAt l (j - 1)).fr) = true := decide_eq_true hf
            go_wp2_with fail
            (refine wp_region_onto prog_mixed (by kernel_rfl) ?_; (repeat (go_big_quiet_step ((go_at_call 170; exact onto_callX (Hq.out _))))); refine onto_end ?_; intro w1 hx1)
            go_wp2_with fail
            go_ret
            exact ⟨ret_bool (B_false (fun h => absurd ((h.2 j hlt).2 h0) (by omega))).symm, (by repeat (first | exact Ext.refl _ | assumption | refine Ext.alloc ?_ _ | refine Ext.drew ?_ | refine Ext.drewN ?_ _ | refine Ext.setCell ?_ (by first | (simp; done) | (simp; omega) | omega) _ | refine Ext.trans ?_ (by assumption)))⟩
          · have T3 : decide ((nspAt l j).fr < (nspAt l (j - 1)).fr) = false := decide_eq_false hf
            go_wp2_with fail
            (refine wp_region_onto prog_mixed (by kernel_rfl) ?_; (repeat (go_big_quiet_step ((go_at_call 170; exact onto_callX (Hq.out _))))); refine onto_end ?_; intro w1 hx1)
            go_wp2_with fail
            go_roundg (l.length - (j + 1))
            case measure => omega
            case rel => exact ⟨j + 1, by omega, by go_num, (by repeat (first | exact Ext.refl _ | assumption | refine Ext.alloc ?_ _ | refine Ext.drew ?_ | refine Ext.drewN ?_ _ | refine Ext.setCell ?_ (by first | (simp; done) | (simp; omega) | omega) _ | refine Ext.trans ?_ (by assumption))), rgs_step Hok.out ⟨B_iff.1 H1.out, fun _ => by omega⟩⟩
        · have hb0 : decide ((0 : Int) < (j : Int)) = false := by simp; omega
          go_wp2_with fail
          (refine wp_region_onto prog_mixed (by kernel_rfl) ?_; (repeat (go_big_quiet_step ((go_at_call 170; exact onto_callX (Hq.out _))))); refine onto_end ?_; intro w1 hx1)
          go_wp2_with fail
          go_roundg (l.length - (j + 1))
          case measure => omega
          case rel => exact ⟨j + 1, by omega, by go_num, (by repeat (first | exact Ext.refl _ | assumption | refine Ext.alloc ?_ _ | refine Ext.drew ?_ | refine Ext.drewN ?_ _ | refine Ext.setCell ?_ (by first | (simp; done) | (simp; omega) | omega) _ | refine Ext.trans ?_ (by assumption))), rgs_step Hok.out ⟨B_iff.1 H1.out, fun hh => absurd hh h0⟩⟩
    · obtain rfl : j = l.length := by omega
      have hji : ¬ (l.length : Int) < (l.length : Int) := by omega
      go_wp2_with fail
      go_ret
      refine ⟨ret_bool (B_eq ?_), (by repeat (first | exact Ext.refl _ | assumption | refine Ext.alloc ?_ _ | refine Ext.drew ?_ | refine Ext.drewN ?_ _ | refine Ext.setCell ?_ (by first | (simp; done) | (simp; omega) | omega) _ | refine Ext.trans ?_ (by assumption)))⟩
      simp only [decide_eq_true_eq]
      exact ⟨fun h => ⟨by omega, Hok.out⟩, fun h => by have := h.1; omega⟩
set_option maxRecDepth 100000 in
set_option maxHeartbeats 4000000 in
theorem spec_AreReigns (v : Value) (l : List Nsp) (w : World) (h : Nsps w 0 w.heap.size v l) (hsm : NSm l) : Calls Tryz.prog 106 #[v] w (RetX (.bool (B (RgsOk l))) w) := by
  obtain ⟨A, c, rfl, hn, hc⟩ := h.len
  have H := Lib.hid h
  clear h
  have Hsm := Lib.hid hsm
  clear hsm
  go_enter Tryz.func106, Tryz.ntmps106
  go_wp2_with fail
  go_loopg [3] l.length (fun q i wr => ∃ j : Nat, j + q = l.length ∧ i = .int .i64 j ∧ Ext w wr ∧ ∀ i, i < j → RgStep l i)
  case atStart => exact ⟨0, by omega, rfl, Ext.refl _, fun i hi => absurd hi (by omega)⟩
  case round =>
    obtain ⟨j, hj, rfl, hx, hok⟩ := hrel
    have Hok := Lib.hid hok
    clear hok
    by_cases hlt : j < l.length
    · obtain ⟨b, off, rfl, _, hb, h1, h2, h3⟩ := (H.out.ext hx (Nat.le_refl _)).at_ hlt
      have hbr : b < wr.heap.size := Nat.lt_of_lt_of_le hb hx.size
      have hbr1 : b < wr.heap.size + 1 := by omega
      have hj0 : (0 : Int) ≤ (j : Int) := by omega
      have hji : (j : Int) < (l.length : Int) := by omega
      have hsz := Hsm.out j hlt
      obtain ⟨q1, e1⟩ : ∃ b, B (NspOk (nspAt l j)) = b := ⟨_, rfl⟩
      have Hq := Lib.hid (show ∀ W, Calls Tryz.prog 164 #[.agg #[.string (nspAt l j).nm, .int .i64 (nspAt l j).fr, .int .i64 (nspAt l j).to]] W (RetX (.bool q1) W) from fun W => by subst e1; exact spec_l07Reign (nspAt l j) W hsz)
      have H1 := Lib.hid e1
      clear e1
      cases q1 with
      | false =>
        go_wp2_with fail
        (refine wp_region_onto prog_mixed (by kernel_rfl) ?_; (repeat (go_big_quiet_step ((go_at_call 164; exact onto_callX (Hq.out _))))); refine onto_end ?_; intro w1 hx1)
        go_wp2_with fail
        go_ret
        exact ⟨ret_bool (B_false (fun h => B_not.1 H1.out (h.2 j hlt).1)).symm, (by repeat (first | exact Ext.refl _ | assumption | refine Ext.alloc ?_ _ | refine Ext.drew ?_ | refine Ext.drewN ?_ _ | refine Ext.setCell ?_ (by first | (simp; done) | (simp; omega) | omega) _ | refine Ext.trans ?_ (by assumption)))⟩
      | true =>
        by_cases h0 : 0 < j
        · have hb0 : decide ((0 : Int) < (j : Int)) = true := by simp; omega
          obtain ⟨b', off', e, _, _, k1, k2, k3⟩ := (H.out.ext hx (Nat.le_refl _)).at_ (i := j - 1) (by omega)
          injection e with e
          injection e with e1 e2
          subst e1 e2
          have hq0 : (0 : Int) ≤ (j : Int) - 1 := by omega
          have hq1 : (j : Int) - 1 < (l.length : Int) := by omega
          have hq2 : ((j : Int) - 1).toNat = j - 1 := by omega
          by_cases hf : (nspAt l j).fr < (nspAt l (j - 1)).fr
          · have T3 : decide ((nspAt l j).fr < (nspAt l (j - 1)).fr) = true := decide_eq_true hf
            go_wp2_with fail
            (refine wp_region_onto prog_mixed (by kernel_rfl) ?_; (repeat (go_big_quiet_step ((go_at_call 164; exact onto_callX (Hq.out _))))); refine onto_end ?_; intro w1 hx1)
            go_wp2_with fail
            go_ret
            exact ⟨ret_bool (B_false (fun h => absurd ((h.2 j hlt).2 h0) (by omega))).symm, (by repeat (first | exact Ext.refl _ | assumption | refine Ext.alloc ?_ _ | refine Ext.drew ?_ | refine Ext.drewN ?_ _ | refine Ext.setCell ?_ (by first | (simp; done) | (simp; omega) | omega) _ | refine Ext.trans ?_ (by assumption)))⟩
          · have T3 : decide ((nspAt l j).fr < (nspAt l (j - 1)).fr) = false := decide_eq_false hf
            go_wp2_with fail
            (refine wp_region_onto prog_mixed (by kernel_rfl) ?_; (repeat (go_big_quiet_step ((go_at_call 164; exact onto_callX (Hq.out _))))); refine onto_end ?_; intro w1 hx1)
            go_wp2_with fail
            go_roundg (l.length - (j + 1))
            case measure => omega
            case rel => exact ⟨j + 1, by omega, by go_num, (by repeat (first | exact Ext.refl _ | assumption | refine Ext.alloc ?_ _ | refine Ext.drew ?_ | refine Ext.drewN ?_ _ | refine Ext.setCell ?_ (by first | (simp; done) | (simp; omega) | omega) _ | refine Ext.trans ?_ (by assumption))), rgs_step Hok.out ⟨B_iff.1 H1.out, fun _ => by omega⟩⟩
        · have hb0 : decide ((0 : Int) < (j : Int)) = false := by simp; omega
          go_wp2_with fail
          (refine wp_region_onto prog_mixed (by kernel_rfl) ?_; (repeat (go_big_quiet_step ((go_at_call 164; exact onto_callX (Hq.out _))))); refine onto_end ?_; intro w1 hx1)
          go_wp2_with fail
          go_roundg (l.length - (j + 1))
          case measure => omega
          case rel => exact ⟨j + 1, by omega, by go_num, (by repeat (first | exact Ext.refl _ | assumption | refine Ext.alloc ?_ _ | refine Ext.drew ?_ | refine Ext.drewN ?_ _ | refine Ext.setCell ?_ (by first | (simp; done) | (simp; omega) | omega) _ | refine Ext.trans ?_ (by assumption))), rgs_step Hok.out ⟨B_iff.1 H1.out, fun hh => absurd hh h0⟩⟩
    · obtain rfl : j = l.length := by omega
      have hji : ¬ (l.length : Int) < (l.length : Int) := by omega
      go_wp2_with fail
      go_ret
      refine ⟨ret_bool (B_eq ?_), (by repeat (first | exact Ext.refl _ | assumption | refine Ext.alloc ?_ _ | refine Ext.drew ?_ | refine Ext.drewN ?_ _ | refine Ext.setCell ?_ (by first | (simp; done) | (simp; omega) | omega) _ | refine Ext.trans ?_ (by assumption)))⟩
      simp only [decide_eq_true_eq]
      exact ⟨fun h => ⟨by omega, Hok.out⟩, fun h => by have := h.1; omega⟩
set_option maxRecDepth 100000 in
set_option maxHeartbeats 4000000 in
theorem impl_IsChancery (v : Value) (c : Chan) (w : World) (h : Nsps w 0 w.heap.size v c.rg) : Calls Tryz.prog 72 #[.agg #[v, .int .i64 c.fr, .int .i64 c.to]] w (RetX (.bool (B (ChanOk c))) w) := by
  have H := Lib.hid h
  clear h
  obtain ⟨q1, eq1⟩ : ∃ b, B (RgsOk c.rg) = b := ⟨_, rfl⟩
  have Hq1 := Lib.hid eq1
  clear eq1
  obtain ⟨q2, eq2⟩ : ∃ b, B (DayOk c.fr) = b := ⟨_, rfl⟩
  have Hq2 := Lib.hid eq2
  clear eq2
  obtain ⟨q3, eq3⟩ : ∃ b, B (DayOk c.to) = b := ⟨_, rfl⟩
  have Hq3 := Lib.hid eq3
  clear eq3
  go_enter Tryz.func72, Tryz.ntmps72
  go_wp2_with fail
  refine Calls.mono (impl_AreReigns v c.rg _ (H.out.up (by repeat (first | exact Ext.refl _ | assumption | refine Ext.alloc ?_ _ | refine Ext.drew ?_ | refine Ext.drewN ?_ _ | refine Ext.setCell ?_ (by first | (simp; done) | (simp; omega) | omega) _ | refine Ext.trans ?_ (by assumption))))) ?_
  rintro e w1 ⟨rfl, hx1⟩
  rw [Hq1.out]
  have bx := (Boxed.new w [v, .int .i64 c.fr, .int .i64 c.to] 62).ext hx1; have bx0 := bx.at0; have bx1 := bx.at1; have bx2 := bx.at2; have bxg := bx.1; have Hbx := Lib.hid bx; clear bx
  cases q1 with
  | false =>
    go_wp2_with fail
    go_ret
    exact ⟨ret_bool (B_false (fun h => absurd (h.1) (B_not.1 Hq1.out))).symm, (by repeat (first | exact Ext.refl _ | assumption | refine Ext.alloc ?_ _ | refine Ext.drew ?_ | refine Ext.drewN ?_ _ | refine Ext.setCell ?_ (by first | (simp; done) | (simp; omega) | omega) _ | refine Ext.trans ?_ (by assumption)))⟩
  | true =>
    go_wp2_with fail
    refine Calls.mono (impl_isDay_b Hq2.out _) ?_
    rintro e w2 ⟨rfl, rfl⟩
    cases q2 with
    | false =>
      go_wp2_with fail
      go_ret
      exact ⟨ret_bool (B_false (fun h => absurd (h.2.1) (B_not.1 Hq2.out))).symm, (by repeat (first | exact Ext.refl _ | assumption | refine Ext.alloc ?_ _ | refine Ext.drew ?_ | refine Ext.drewN ?_ _ | refine Ext.setCell ?_ (by first | (simp; done) | (simp; omega) | omega) _ | refine Ext.trans ?_ (by assumption)))⟩
    | true =>
      go_wp2_with fail
      refine Calls.mono (impl_isDay_b Hq3.out _) ?_
      rintro e w3 ⟨rfl, rfl⟩
      cases q3 with
      | false =>
        go_wp2_with fail
        go_ret
        exact ⟨ret_bool (B_false (fun h => absurd (h.2.2.1) (B_not.1 Hq3.out))).symm, (by repeat (first | exact Ext.refl _ | assumption | refine Ext.alloc ?_ _ | refine Ext.drew ?_ | refine Ext.drewN ?_ _ | refine Ext.setCell ?_ (by first | (simp; done) | (simp; omega) | omega) _ | refine Ext.trans ?_ (by assumption)))⟩
      | true =>
        obtain ⟨f1, f2⟩ := B_iff.1 Hq2.out
        obtain ⟨f3, f4⟩ := B_iff.1 Hq3.out
        by_cases h4 : c.fr ≤ c.to
        · have d4 : decide (c.fr ≤ c.to) = true := decide_eq_true h4
          have W1 : IntKind.i64.wrap (c.to - c.fr) = c.to - c.fr := IntWalk.i64_in _ (by omega)
          by_cases h5 : c.to - c.fr ≤ 20000
          · have d5 : decide (c.to - c.fr ≤ 20000) = true := decide_eq_true h5
            go_wp2_with fail
            go_ret
            exact ⟨ret_bool (B_true ⟨B_iff.1 Hq1.out, B_iff.1 Hq2.out, B_iff.1 Hq3.out, h4, h5⟩).symm, (by repeat (first | exact Ext.refl _ | assumption | refine Ext.alloc ?_ _ | refine Ext.drew ?_ | refine Ext.drewN ?_ _ | refine Ext.setCell ?_ (by first | (simp; done) | (simp; omega) | omega) _ | refine Ext.trans ?_ (by assumption)))⟩
          · have d5 : decide (c.to - c.fr ≤ 20000) = false := decide_eq_false h5
            go_wp2_with fail
            go_ret
            exact ⟨ret_bool (B_false (fun h => by have := h.2.2.2.2; omega)).symm, (by repeat (first | exact Ext.refl _ | assumption | refine Ext.alloc ?_ _ | refine Ext.drew ?_ | refine Ext.drewN ?_ _ | refine Ext.setCell ?_ (by first | (simp; done) | (simp; omega) | omega) _ | refine Ext.trans ?_ (by assumption)))⟩
        · have d4 : decide (c.fr ≤ c.to) = false := decide_eq_false h4
          go_wp2_with fail
          go_ret
          exact ⟨ret_bool (B_false (fun h => by have := h.2.2.2.1; omega)).symm, (by repeat (first | exact Ext.refl _ | assumption | refine Ext.alloc ?_ _ | refine Ext.drew ?_ | refine Ext.drewN ?_ _ | refine Ext.setCell ?_ (by first | (simp; done) | (simp; omega) | omega) _ | refine Ext.trans ?_ (by assumption)))⟩
set_option maxRecDepth 100000 in
set_option maxHeartbeats 4000000 in
theorem spec_IsChancery (v : Value) (c : Chan) (w : World) (h : Nsps w 0 w.heap.size v c.rg) (hsm : NSm c.rg) : Calls Tryz.prog 64 #[.agg #[v, .int .i64 c.fr, .int .i64 c.to]] w (RetX (.bool (B (ChanOk c))) w) := by
  have H := Lib.hid h
  clear h
  obtain ⟨q1, eq1⟩ : ∃ b, B (RgsOk c.rg) = b := ⟨_, rfl⟩
  have Hq1 := Lib.hid eq1
  clear eq1
  obtain ⟨q2, eq2⟩ : ∃ b, B (DayOk c.fr) = b := ⟨_, rfl⟩
  have Hq2 := Lib.hid eq2
  clear eq2
  obtain ⟨q3, eq3⟩ : ∃ b, B (DayOk c.to) = b := ⟨_, rfl⟩
  have Hq3 := Lib.hid eq3
  clear eq3
  obtain ⟨q4, eq4⟩ : ∃ b, B (c.fr ≤ c.to ∧ c.to ≤ c.fr + 20000) = b := ⟨_, rfl⟩
  have Hq4 := Lib.hid eq4
  clear eq4
  go_enter Tryz.func64, Tryz.ntmps64
  go_wp2_with fail
  refine Calls.mono (spec_AreReigns v c.rg _ (H.out.up (by repeat (first | exact Ext.refl _ | assumption | refine Ext.alloc ?_ _ | refine Ext.drew ?_ | refine Ext.drewN ?_ _ | refine Ext.setCell ?_ (by first | (simp; done) | (simp; omega) | omega) _ | refine Ext.trans ?_ (by assumption)))) hsm) ?_
  rintro e w1 ⟨rfl, hx1⟩
  rw [Hq1.out]
  have bx := (Boxed.new w [v, .int .i64 c.fr, .int .i64 c.to] 62).ext hx1; have bx0 := bx.at0; have bx1 := bx.at1; have bx2 := bx.at2; have bxg := bx.1; have Hbx := Lib.hid bx; clear bx
  cases q1 with
  | false =>
    go_wp2_with fail
    go_ret
    exact ⟨ret_bool (B_false (fun h => absurd (h.1) (B_not.1 Hq1.out))).symm, (by repeat (first | exact Ext.refl _ | assumption | refine Ext.alloc ?_ _ | refine Ext.drew ?_ | refine Ext.drewN ?_ _ | refine Ext.setCell ?_ (by first | (simp; done) | (simp; omega) | omega) _ | refine Ext.trans ?_ (by assumption)))⟩
  | true =>
    go_wp2_with fail
    refine Calls.mono (spec_l01Day_b Hq2.out _) ?_
    rintro e w2 ⟨rfl, rfl⟩
    cases q2 with
    | false =>
      go_wp2_with fail
      go_ret
      exact ⟨ret_bool (B_false (fun h => absurd (h.2.1) (B_not.1 Hq2.out))).symm, (by repeat (first | exact Ext.refl _ | assumption | refine Ext.alloc ?_ _ | refine Ext.drew ?_ | refine Ext.drewN ?_ _ | refine Ext.setCell ?_ (by first | (simp; done) | (simp; omega) | omega) _ | refine Ext.trans ?_ (by assumption)))⟩
    | true =>
      go_wp2_with fail
      refine Calls.mono (spec_l01Day_b Hq3.out _) ?_
      rintro e w3 ⟨rfl, rfl⟩
      cases q3 with
      | false =>
        go_wp2_with fail
        go_ret
        exact ⟨ret_bool (B_false (fun h => absurd (h.2.2.1) (B_not.1 Hq3.out))).symm, (by repeat (first | exact Ext.refl _ | assumption | refine Ext.alloc ?_ _ | refine Ext.drew ?_ | refine Ext.drewN ?_ _ | refine Ext.setCell ?_ (by first | (simp; done) | (simp; omega) | omega) _ | refine Ext.trans ?_ (by assumption)))⟩
      | true =>
        obtain ⟨f1, f2⟩ := B_iff.1 Hq2.out
        obtain ⟨f3, f4⟩ := B_iff.1 Hq3.out
        have W1 : IntKind.i64.wrap (c.fr + 20000) = c.fr + 20000 := IntWalk.i64_in _ (by omega)
        go_wp2_with fail
        refine Calls.mono (spec_l01In_k Hq4.out _) ?_
        rintro e w4 ⟨rfl, rfl⟩
        cases q4 with
        | false =>
          go_wp2_with fail
          go_ret
          exact ⟨ret_bool (B_false (fun h => absurd (show c.fr ≤ c.to ∧ c.to ≤ c.fr + 20000 from ⟨h.2.2.2.1, by have := h.2.2.2.2; omega⟩) (B_not.1 Hq4.out))).symm, (by repeat (first | exact Ext.refl _ | assumption | refine Ext.alloc ?_ _ | refine Ext.drew ?_ | refine Ext.drewN ?_ _ | refine Ext.setCell ?_ (by first | (simp; done) | (simp; omega) | omega) _ | refine Ext.trans ?_ (by assumption)))⟩
        | true =>
          obtain ⟨g1, g2⟩ := B_iff.1 Hq4.out
          go_wp2_with fail
          go_ret
          exact ⟨ret_bool (B_true ⟨B_iff.1 Hq1.out, B_iff.1 Hq2.out, B_iff.1 Hq3.out, g1, by omega⟩).symm, (by repeat (first | exact Ext.refl _ | assumption | refine Ext.alloc ?_ _ | refine Ext.drew ?_ | refine Ext.drewN ?_ _ | refine Ext.setCell ?_ (by first | (simp; done) | (simp; omega) | omega) _ | refine Ext.trans ?_ (by assumption)))⟩
end Go.Proofs.YtbddkmlfjghllaaGreatDoor
