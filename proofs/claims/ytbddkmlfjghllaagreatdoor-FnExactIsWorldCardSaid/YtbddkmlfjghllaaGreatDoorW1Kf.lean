/- Texts merged (a claim holds at most sixty files): Kf, Kc, Kd. -/
import Derived.Test.YtbddkmlfjghllaaGreatDoorW1Jc
import Derived.Test.YtbddkmlfjghllaaGreatDoorW1Ka
/- Contract: IsLand, the reference's. (Printed by genKe.py.) -/
namespace Go.Proofs.YtbddkmlfjghllaaGreatDoor
set_option linter.unusedVariables false
set_option linter.unusedSimpArgs false
open Go.RowKit
attribute [local go_sem] cell_onto

set_option maxHeartbeats 1000000 in
theorem spec_l14Place (A : Option Addr) (n c : Nat) (u : Value) (x : Int) (w : World) (hn : n ≤ 9223372036854775807) : Calls Tryz.prog 165 #[.agg #[.slice A n c, u], .int .i64 x] w (RetX (.bool (B (0 ≤ x ∧ x ≤ (n : Int) - 1))) w) := by
  have W1 : IntKind.i64.wrap ((n : Int) - 1) = (n : Int) - 1 := IntWalk.i64_in _ (by omega)
  go_enter Tryz.func165, Tryz.ntmps165
  go_wp2_with fail
  refine Calls.mono (spec_l01In x 0 ((n : Int) - 1) _) ?_
  rintro e w1 ⟨rfl, rfl⟩
  go_wp2_with fail
  go_ret
  exact ⟨rfl, (by repeat (first | exact Ext.refl _ | assumption | refine Ext.alloc ?_ _ | refine Ext.drew ?_ | refine Ext.drewN ?_ _ | refine Ext.setCell ?_ (by first | (simp; done) | (simp; omega) | omega) _ | refine Ext.trans ?_ (by assumption)))⟩
theorem spec_l14Place_b {x : Int} {n : Nat} {b : Bool} (hb : B (0 ≤ x ∧ x ≤ (n : Int) - 1) = b) (A : Option Addr) (c : Nat) (u : Value) (w : World) (hn : n ≤ 9223372036854775807) : Calls Tryz.prog 165 #[.agg #[.slice A n c, u], .int .i64 x] w (RetX (.bool b) w) := by
  subst hb; exact spec_l14Place A n c u x w hn
set_option maxRecDepth 100000 in
set_option maxHeartbeats 16000000 in
theorem spec_IsLand (v u : Value) (L : Lnd) (w : World) (hp : Strs w 0 w.heap.size v L.pl) (ht : Wys w 0 w.heap.size u L.wy) (hsm : ∀ i, i < L.pl.length → (strAt L.pl i).size ≤ 1048576) : Calls Tryz.prog 108 #[.agg #[v, u]] w (RetX (.bool (B (LndOk L))) w) := by
  obtain ⟨Ap, cp, rfl, hnp, hcp⟩ := hp.len
  obtain ⟨At, ct, rfl, hnt, hct⟩ := ht.len
  have Hp := Lib.hid hp
  have Ht := Lib.hid ht
  clear hp ht
  have Hsm := Lib.hid hsm
  clear hsm
  have Hb := Lib.hid (Boxed.new w [.slice Ap L.pl.length cp, .slice At L.wy.length ct] 69)
  go_enter Tryz.func108, Tryz.ntmps108
  go_wp2_with fail
  go_loopg [3] L.pl.length (fun q i wr => ∃ j : Nat, j + q = L.pl.length ∧ i = .int .i64 j ∧ Ext (w.alloc (.cells #[.slice Ap L.pl.length cp, .slice At L.wy.length ct] 69)) wr ∧ ∀ i, i < j → PlStep L.pl i)
  case atStart => exact ⟨0, by omega, rfl, (by repeat (first | exact Ext.refl _ | assumption | refine Ext.alloc ?_ _ | refine Ext.drew ?_ | refine Ext.drewN ?_ _ | refine Ext.setCell ?_ (by first | (simp; done) | (simp; omega) | omega) _ | refine Ext.trans ?_ (by assumption))), fun i hi => absurd hi (by omega)⟩
  case round =>
    obtain ⟨j, hj, rfl, hx0, hok⟩ := hrel
    have Hok := Lib.hid hok
    clear hok
    have hx : Ext w wr := (by repeat (first | exact Ext.refl _ | assumption | refine Ext.alloc ?_ _ | refine Ext.drew ?_ | refine Ext.drewN ?_ _ | refine Ext.setCell ?_ (by first | (simp; done) | (simp; omega) | omega) _ | refine Ext.trans ?_ (by assumption)))
    have bx := Hb.out.ext hx0; have bx0 := bx.at0; have bx1 := bx.at1; have bxg := bx.1; have Hbx := Lib.hid bx; clear bx
    have hj0 : (0 : Int) ≤ (j : Int) := by omega
    by_cases hlt : j < L.pl.length
    · obtain ⟨b, off, eA, _, hb, h1⟩ := (Hp.out.ext hx (Nat.le_refl _)).at_ hlt
      have Hrow := Lib.hid (Hp.out.ext hx (Nat.le_refl _))
      subst eA
      have Htk := Lib.hid (Strs.take Hrow.out (Nat.le_of_lt hlt))
      clear Hrow
      have hbr : b < wr.heap.size := Nat.lt_of_lt_of_le hb hx.size
      have hji : (j : Int) < (L.pl.length : Int) := by omega
      have hjl : (j : Int) ≤ (L.pl.length : Int) := by omega
      have hjc : (j : Int) ≤ (cp : Int) := by omega
      have hjc2 : j ≤ cp := by omega
      have hsz := Hsm.out j hlt
      obtain ⟨q1, eq1⟩ : ∃ b, B (NameOk (strAt L.pl j) 12) = b := ⟨_, rfl⟩
      have Hq1 := Lib.hid eq1
      clear eq1
      obtain ⟨r, er⟩ : ∃ r, fstIx (fun i => strAt (L.pl.take j) i = strAt L.pl j) (L.pl.take j).length = r := ⟨_, rfl⟩
      have Hdup := Lib.hid (dup_iff (l := L.pl) (j := j) (Nat.le_of_lt hlt))
      rw [er] at Hdup
      have Hr := Lib.hid er
      clear er
      have Hct := Lib.hid (fun W (hX : Ext wr W) => show Calls Tryz.prog 56 #[.slice (some ⟨b, off, none⟩) j cp, .string (strAt L.pl j)] W (RetX (.int .i64 r) W) from by rw [← Hr.out]; exact spec_l01Text _ (L.pl.take j) (strAt L.pl j) W ((Htk.out.mono (Nat.le_refl _) hx.size).up hX))
      cases q1 with
      | false =>
        go_wp2_with fail
        (refine wp_region_onto prog_mixed (by kernel_rfl) ?_; (repeat (go_big_quiet_step ((first | (go_at_call 49; exact onto_callS (spec_l01Name_b Hq1.out _ (by omega))) | (go_at_call 56; exact onto_callX (Hct.out _ (onto_ext _ _))))))); refine onto_end ?_; intro w1 hx1)
        go_wp2_with fail
        go_ret
        exact ⟨ret_bool (B_false (fun h => B_not.1 Hq1.out (h.2.2.1 j hlt).1)).symm, (by repeat (first | exact Ext.refl _ | assumption | refine Ext.alloc ?_ _ | refine Ext.drew ?_ | refine Ext.drewN ?_ _ | refine Ext.setCell ?_ (by first | (simp; done) | (simp; omega) | omega) _ | refine Ext.trans ?_ (by assumption)))⟩
      | true =>
        by_cases hr : 0 ≤ r
        case pos =>
          have dr : decide (0 ≤ r) = true := decide_eq_true hr
          go_wp2_with fail
          (refine wp_region_onto prog_mixed (by kernel_rfl) ?_; (repeat (go_big_quiet_step ((first | (go_at_call 49; exact onto_callS (spec_l01Name_b Hq1.out _ (by omega))) | (go_at_call 56; exact onto_callX (Hct.out _ (onto_ext _ _))))))); refine onto_end ?_; intro w1 hx1)
          go_wp2_with fail
          go_ret
          exact ⟨ret_bool (B_false (fun h => (Hdup.out.1 hr) (h.2.2.1 j hlt).2)).symm, (by repeat (first | exact Ext.refl _ | assumption | refine Ext.alloc ?_ _ | refine Ext.drew ?_ | refine Ext.drewN ?_ _ | refine Ext.setCell ?_ (by first | (simp; done) | (simp; omega) | omega) _ | refine Ext.trans ?_ (by assumption)))⟩
        have dr : decide (0 ≤ r) = false := decide_eq_false hr
        go_wp2_with fail
        (refine wp_region_onto prog_mixed (by kernel_rfl) ?_; (repeat (go_big_quiet_step ((first | (go_at_call 49; exact onto_callS (spec_l01Name_b Hq1.out _ (by omega))) | (go_at_call 56; exact onto_callX (Hct.out _ (onto_ext _ _))))))); refine onto_end ?_; intro w1 hx1)
        go_wp2_with fail
        go_roundg (L.pl.length - (j + 1))
        case measure => omega
        case rel => exact ⟨j + 1, by omega, by go_num, (by repeat (first | exact Ext.refl _ | assumption | refine Ext.alloc ?_ _ | refine Ext.drew ?_ | refine Ext.drewN ?_ _ | refine Ext.setCell ?_ (by first | (simp; done) | (simp; omega) | omega) _ | refine Ext.trans ?_ (by assumption))), pl_step Hok.out ⟨B_iff.1 Hq1.out, Classical.byContradiction fun hn => by have := Hdup.out.2 hn; omega⟩⟩
    · obtain rfl : j = L.pl.length := by omega
      have hji : ¬ (L.pl.length : Int) < (L.pl.length : Int) := by omega
      have Hpl := Lib.hid (show ∀ i, i < L.pl.length → PlStep L.pl i from Hok.out)
      clear hlt
      obtain ⟨wz, rfl⟩ : ∃ x : World, x = wr := ⟨_, rfl⟩
      go_wp2_with fail
      go_loopg [4, 5] L.wy.length (fun q i u5 wr => ∃ j : Nat, j + q = L.wy.length ∧ i = .int .i64 j ∧ Ext wz wr ∧ ∀ i, i < j → WyOk L.pl.length (wyAt L.wy i))
      case atStart => exact ⟨0, by omega, rfl, (by repeat (first | exact Ext.refl _ | assumption | refine Ext.alloc ?_ _ | refine Ext.drew ?_ | refine Ext.drewN ?_ _ | refine Ext.setCell ?_ (by first | (simp; done) | (simp; omega) | omega) _ | refine Ext.trans ?_ (by assumption))), fun i hi => absurd hi (by omega)⟩
      case round =>
        obtain ⟨j, hj, rfl, hxz, hok⟩ := hrel
        have Hwy := Lib.hid hok
        clear hok bx0 bx1 bxg
        have hx2 : Ext w wr := hx.trans hxz
        have bx := Hbx.out.ext hxz
        have bx0 := bx.at0
        have bx1 := bx.at1
        have bxg := bx.1
        have Hby := Lib.hid bx
        clear bx
        have bxg1 : w.heap.size < wr.heap.size + 1 := by omega
        have hj0 : (0 : Int) ≤ (j : Int) := by omega
        by_cases hlt : j < L.wy.length
        · obtain ⟨b, off, rfl, _, hb, h1, h2, h3⟩ := (Ht.out.ext hx2 (Nat.le_refl _)).at_ hlt
          have hbr : b < wr.heap.size := Nat.lt_of_lt_of_le hb hx2.size
          have hbr1 : b < wr.heap.size + 1 := by omega
          have hji : (j : Int) < (L.wy.length : Int) := by omega
          obtain ⟨q1, eq1⟩ : ∃ b, B (0 ≤ (wyAt L.wy j).a ∧ (wyAt L.wy j).a ≤ (L.pl.length : Int) - 1) = b := ⟨_, rfl⟩
          have Hq1 := Lib.hid eq1
          clear eq1
          obtain ⟨q2, eq2⟩ : ∃ b, B (0 ≤ (wyAt L.wy j).b ∧ (wyAt L.wy j).b ≤ (L.pl.length : Int) - 1) = b := ⟨_, rfl⟩
          have Hq2 := Lib.hid eq2
          clear eq2
          obtain ⟨q3, eq3⟩ : ∃ b, B (1 ≤ (wyAt L.wy j).d ∧ (wyAt L.wy j).d ≤ 60) = b := ⟨_, rfl⟩
          have Hq3 := Lib.hid eq3
          clear eq3
          go_wp2_with fail
          refine Calls.mono (spec_l14Place_b Hq1.out _ _ _ _ hnp) ?_
          rintro e w3 ⟨rfl, hx3⟩
          have bt := (Boxed.new wr [.int .i64 (wyAt L.wy j).a, .int .i64 (wyAt L.wy j).b, .int .i64 (wyAt L.wy j).d] 225).ext hx3; have bt0 := bt.at0; have bt1 := bt.at1; have bt2 := bt.at2; have btg := bt.1; have Hbt := Lib.hid bt; clear bt
          have hxr3 : Ext wr w3 := (by repeat (first | exact Ext.refl _ | assumption | refine Ext.alloc ?_ _ | refine Ext.drew ?_ | refine Ext.drewN ?_ _ | refine Ext.setCell ?_ (by first | (simp; done) | (simp; omega) | omega) _ | refine Ext.trans ?_ (by assumption)))
          clear bx0 bx1 bxg bxg1
          have bx := Hby.out.ext hxr3
          have bx0 := bx.at0
          have bx1 := bx.at1
          have bxg := bx.1
          clear bx h1 h2 h3
          cases q1 with
          | false =>
            go_wp2_with fail
            go_ret
            exact ⟨ret_bool (B_false (fun h => B_not.1 Hq1.out (by have hh := h.2.2.2 j hlt; exact hh.1))).symm, (by repeat (first | exact Ext.refl _ | assumption | refine Ext.alloc ?_ _ | refine Ext.drew ?_ | refine Ext.drewN ?_ _ | refine Ext.setCell ?_ (by first | (simp; done) | (simp; omega) | omega) _ | refine Ext.trans ?_ (by assumption)))⟩
          | true =>
            go_wp2_with fail
            refine Calls.mono (spec_l14Place_b Hq2.out _ _ _ _ hnp) ?_
            rintro e w4 ⟨rfl, hx4⟩
            clear bt0 bt1 bt2 btg
            have bt := Hbt.out.ext hx4
            have bt0 := bt.at0
            have bt1 := bt.at1
            have bt2 := bt.at2
            have btg := bt.1
            clear bt
            cases q2 with
            | false =>
              go_wp2_with fail
              go_ret
              exact ⟨ret_bool (B_false (fun h => B_not.1 Hq2.out (by have hh := h.2.2.2 j hlt; exact hh.2.1))).symm, (by repeat (first | exact Ext.refl _ | assumption | refine Ext.alloc ?_ _ | refine Ext.drew ?_ | refine Ext.drewN ?_ _ | refine Ext.setCell ?_ (by first | (simp; done) | (simp; omega) | omega) _ | refine Ext.trans ?_ (by assumption)))⟩
            | true =>
              by_cases h4 : (wyAt L.wy j).a = (wyAt L.wy j).b
              case pos =>
                have d5 : ((wyAt L.wy j).a == (wyAt L.wy j).b) = true := by simpa using h4
                have H4 := Lib.hid h4
                have d4 : decide ((wyAt L.wy j).a = (wyAt L.wy j).b) = true := decide_eq_true h4
                clear h4
                go_wp2_with fail
                go_ret
                exact ⟨ret_bool (B_false (fun h => (h.2.2.2 j hlt).2.2.1 H4.out)).symm, (by repeat (first | exact Ext.refl _ | assumption | refine Ext.alloc ?_ _ | refine Ext.drew ?_ | refine Ext.drewN ?_ _ | refine Ext.setCell ?_ (by first | (simp; done) | (simp; omega) | omega) _ | refine Ext.trans ?_ (by assumption)))⟩
              have d5 : ((wyAt L.wy j).a == (wyAt L.wy j).b) = false := by simpa using h4
              have d4 : decide ((wyAt L.wy j).a = (wyAt L.wy j).b) = false := decide_eq_false h4
              have H4 := Lib.hid h4
              clear h4
              go_wp2_with fail
              refine Calls.mono (spec_l01In_k Hq3.out _) ?_
              rintro e w5 ⟨rfl, rfl⟩
              cases q3 with
              | false =>
                go_wp2_with fail
                go_ret
                exact ⟨ret_bool (B_false (fun h => B_not.1 Hq3.out (by have hh := h.2.2.2 j hlt; exact hh.2.2.2))).symm, (by repeat (first | exact Ext.refl _ | assumption | refine Ext.alloc ?_ _ | refine Ext.drew ?_ | refine Ext.drewN ?_ _ | refine Ext.setCell ?_ (by first | (simp; done) | (simp; omega) | omega) _ | refine Ext.trans ?_ (by assumption)))⟩
              | true =>
                have Hn := Lib.hid (show WyOk L.pl.length (wyAt L.wy j) from ⟨B_iff.1 Hq1.out, B_iff.1 Hq2.out, H4.out, B_iff.1 Hq3.out⟩)
                go_wp2_with fail
                go_roundg (L.wy.length - (j + 1))
                case measure => omega
                case rel => exact ⟨j + 1, by omega, by go_num, (hxz.trans hxr3).trans (by repeat (first | exact Ext.refl _ | assumption | refine Ext.alloc ?_ _ | refine Ext.drew ?_ | refine Ext.drewN ?_ _ | refine Ext.setCell ?_ (by first | (simp; done) | (simp; omega) | omega) _ | refine Ext.trans ?_ (by assumption))), fun i hi => by
                  by_cases e : i = j
                  · rw [e]; exact Hn.out
                  · exact Hwy.out i (by omega)⟩
        · obtain rfl : j = L.wy.length := by omega
          have hji : ¬ (L.wy.length : Int) < (L.wy.length : Int) := by omega
          clear hlt
          by_cases hl1 : 1 ≤ L.pl.length
          case neg =>
            have d1 : decide ((1 : Int) ≤ (L.pl.length : Int)) = false := decide_eq_false (by omega)
            go_wp2_with fail
            go_ret
            exact ⟨ret_bool (B_false (fun h => by have := h.1.1; omega)).symm, (by repeat (first | exact Ext.refl _ | assumption | refine Ext.alloc ?_ _ | refine Ext.drew ?_ | refine Ext.drewN ?_ _ | refine Ext.setCell ?_ (by first | (simp; done) | (simp; omega) | omega) _ | refine Ext.trans ?_ (by assumption)))⟩
          have d1 : decide ((1 : Int) ≤ (L.pl.length : Int)) = true := decide_eq_true (by omega)
          by_cases hl2 : L.pl.length ≤ 12
          case neg =>
            have d2 : decide ((L.pl.length : Int) ≤ 12) = false := decide_eq_false (by omega)
            go_wp2_with fail
            go_ret
            exact ⟨ret_bool (B_false (fun h => by have := h.1.2; omega)).symm, (by repeat (first | exact Ext.refl _ | assumption | refine Ext.alloc ?_ _ | refine Ext.drew ?_ | refine Ext.drewN ?_ _ | refine Ext.setCell ?_ (by first | (simp; done) | (simp; omega) | omega) _ | refine Ext.trans ?_ (by assumption)))⟩
          have d2 : decide ((L.pl.length : Int) ≤ 12) = true := decide_eq_true (by omega)
          by_cases hl3 : L.wy.length ≤ 40
          case neg =>
            have d3 : decide ((L.wy.length : Int) ≤ 40) = false := decide_eq_false (by omega)
            go_wp2_with fail
            go_ret
            exact ⟨ret_bool (B_false (fun h => by have := h.2.1; omega)).symm, (by repeat (first | exact Ext.refl _ | assumption | refine Ext.alloc ?_ _ | refine Ext.drew ?_ | refine Ext.drewN ?_ _ | refine Ext.setCell ?_ (by first | (simp; done) | (simp; omega) | omega) _ | refine Ext.trans ?_ (by assumption)))⟩
          have d3 : decide ((L.wy.length : Int) ≤ 40) = true := decide_eq_true (by omega)
          go_wp2_with fail
          go_ret
          exact ⟨ret_bool (B_true ⟨⟨hl1, hl2⟩, hl3, Hpl.out, Hwy.out⟩).symm, (by repeat (first | exact Ext.refl _ | assumption | refine Ext.alloc ?_ _ | refine Ext.drew ?_ | refine Ext.drewN ?_ _ | refine Ext.setCell ?_ (by first | (simp; done) | (simp; omega) | omega) _ | refine Ext.trans ?_ (by assumption)))⟩
end Go.Proofs.YtbddkmlfjghllaaGreatDoor

/- Contract: IsPeople, the program's. (Printed by genKc.py.) -/
namespace Go.Proofs.YtbddkmlfjghllaaGreatDoor
set_option linter.unusedVariables false
set_option linter.unusedSimpArgs false
open Go.RowKit
attribute [local go_sem] cell_onto

set_option maxRecDepth 100000 in
set_option maxHeartbeats 16000000 in
theorem impl_IsPeople (v u : Value) (P : Ppl) (w : World) (hp : Nsps w 0 w.heap.size v P.ps) (ht : Trms w 0 w.heap.size u P.tm) : Calls Tryz.prog 73 #[.agg #[v, u]] w (RetX (.bool (B (PplOk P))) w) := by
  obtain ⟨Ap, cp, rfl, _, hcp⟩ := hp.len
  obtain ⟨At, ct, rfl, _, hct⟩ := ht.len
  have Hp := Lib.hid hp
  have Ht := Lib.hid ht
  clear hp ht
  have Hb := Lib.hid (Boxed.new w [.slice Ap P.ps.length cp, .slice At P.tm.length ct] 66)
  by_cases hl1 : P.ps.length ≤ 40
  case neg =>
    have d1 : decide ((40 : Int) < (P.ps.length : Int)) = true := decide_eq_true (by omega)
    go_enter Tryz.func73, Tryz.ntmps73
    go_wp2_with fail
    go_ret
    exact ⟨ret_bool (B_false (fun h => by have := h.1; omega)).symm, (by repeat (first | exact Ext.refl _ | assumption | refine Ext.alloc ?_ _ | refine Ext.drew ?_ | refine Ext.drewN ?_ _ | refine Ext.setCell ?_ (by first | (simp; done) | (simp; omega) | omega) _ | refine Ext.trans ?_ (by assumption)))⟩
  have d1 : decide ((40 : Int) < (P.ps.length : Int)) = false := decide_eq_false (by omega)
  by_cases hl2 : P.tm.length ≤ 60
  case neg =>
    have d2 : decide ((60 : Int) < (P.tm.length : Int)) = true := decide_eq_true (by omega)
    go_enter Tryz.func73, Tryz.ntmps73
    go_wp2_with fail
    go_ret
    exact ⟨ret_bool (B_false (fun h => by have := h.2.1; omega)).symm, (by repeat (first | exact Ext.refl _ | assumption | refine Ext.alloc ?_ _ | refine Ext.drew ?_ | refine Ext.drewN ?_ _ | refine Ext.setCell ?_ (by first | (simp; done) | (simp; omega) | omega) _ | refine Ext.trans ?_ (by assumption)))⟩
  have d2 : decide ((60 : Int) < (P.tm.length : Int)) = false := decide_eq_false (by omega)
  go_enter Tryz.func73, Tryz.ntmps73
  go_wp2_with fail
  go_loopg [3, 4, 21] P.ps.length (fun q u3 u4 i wr => ∃ j : Nat, j + q = P.ps.length ∧ i = .int .i64 j ∧ Ext (w.alloc (.cells #[.slice Ap P.ps.length cp, .slice At P.tm.length ct] 66)) wr ∧ ∀ i, i < j → PsStep P.ps i)
  case atStart => exact ⟨0, by omega, rfl, (by repeat (first | exact Ext.refl _ | assumption | refine Ext.alloc ?_ _ | refine Ext.drew ?_ | refine Ext.drewN ?_ _ | refine Ext.setCell ?_ (by first | (simp; done) | (simp; omega) | omega) _ | refine Ext.trans ?_ (by assumption))), fun i hi => absurd hi (by omega)⟩
  case round =>
    obtain ⟨j, hj, rfl, hx0, hok⟩ := hrel
    have Hok := Lib.hid hok
    clear hok
    have hx : Ext w wr := (by repeat (first | exact Ext.refl _ | assumption | refine Ext.alloc ?_ _ | refine Ext.drew ?_ | refine Ext.drewN ?_ _ | refine Ext.setCell ?_ (by first | (simp; done) | (simp; omega) | omega) _ | refine Ext.trans ?_ (by assumption)))
    have bx := Hb.out.ext hx0; have bx0 := bx.at0; have bx1 := bx.at1; have bxg := bx.1; have Hbx := Lib.hid bx; clear bx
    have bxg1 : w.heap.size < wr.heap.size + 1 := by omega
    have hj0 : (0 : Int) ≤ (j : Int) := by omega
    by_cases hlt : j < P.ps.length
    · obtain ⟨b, off, rfl, _, hb, h1, h2, h3⟩ := (Hp.out.ext hx (Nat.le_refl _)).at_ hlt
      have hbr : b < wr.heap.size := Nat.lt_of_lt_of_le hb hx.size
      have hbr1 : b < wr.heap.size + 1 := by omega
      have hji : (j : Int) < (P.ps.length : Int) := by omega
      obtain ⟨q1, eq1⟩ : ∃ b, B (NameOk (nspAt P.ps j).nm 12) = b := ⟨_, rfl⟩
      have Hq1 := Lib.hid eq1
      clear eq1
      obtain ⟨q2, eq2⟩ : ∃ b, B (DayOk (nspAt P.ps j).fr) = b := ⟨_, rfl⟩
      have Hq2 := Lib.hid eq2
      clear eq2
      obtain ⟨q3, eq3⟩ : ∃ b, B (DayOk (nspAt P.ps j).to) = b := ⟨_, rfl⟩
      have Hq3 := Lib.hid eq3
      clear eq3
      cases q1 with
      | false =>
        go_wp2_with fail
        (refine wp_region_onto prog_mixed (by kernel_rfl) ?_; (repeat (go_big_quiet_step ((first | (go_at_call 43; exact onto_callX (impl_isSmall_b Hq1.out _ (by decide))) | (go_at_call 42; first | with_reducible exact onto_callS (impl_isDay_b Hq2.out _) | with_reducible exact onto_callS (impl_isDay_b Hq3.out _)))))); refine onto_end ?_; intro w1 hx1)
        go_wp2_with fail
        go_ret
        exact ⟨ret_bool (B_false (fun h => B_not.1 Hq1.out (by have h1 := (h.2.2.1 j hlt).1; exact h1.1))).symm, (by repeat (first | exact Ext.refl _ | assumption | refine Ext.alloc ?_ _ | refine Ext.drew ?_ | refine Ext.drewN ?_ _ | refine Ext.setCell ?_ (by first | (simp; done) | (simp; omega) | omega) _ | refine Ext.trans ?_ (by assumption)))⟩
      | true =>
        cases q2 with
        | false =>
          go_wp2_with fail
          (refine wp_region_onto prog_mixed (by kernel_rfl) ?_; (repeat (go_big_quiet_step ((first | (go_at_call 43; exact onto_callX (impl_isSmall_b Hq1.out _ (by decide))) | (go_at_call 42; first | with_reducible exact onto_callS (impl_isDay_b Hq2.out _) | with_reducible exact onto_callS (impl_isDay_b Hq3.out _)))))); refine onto_end ?_; intro w1 hx1)
          go_wp2_with fail
          go_ret
          exact ⟨ret_bool (B_false (fun h => B_not.1 Hq2.out (by have h1 := (h.2.2.1 j hlt).1; exact h1.2.1))).symm, (by repeat (first | exact Ext.refl _ | assumption | refine Ext.alloc ?_ _ | refine Ext.drew ?_ | refine Ext.drewN ?_ _ | refine Ext.setCell ?_ (by first | (simp; done) | (simp; omega) | omega) _ | refine Ext.trans ?_ (by assumption)))⟩
        | true =>
          cases q3 with
          | false =>
            go_wp2_with fail
            (refine wp_region_onto prog_mixed (by kernel_rfl) ?_; (repeat (go_big_quiet_step ((first | (go_at_call 43; exact onto_callX (impl_isSmall_b Hq1.out _ (by decide))) | (go_at_call 42; first | with_reducible exact onto_callS (impl_isDay_b Hq2.out _) | with_reducible exact onto_callS (impl_isDay_b Hq3.out _)))))); refine onto_end ?_; intro w1 hx1)
            go_wp2_with fail
            go_ret
            exact ⟨ret_bool (B_false (fun h => B_not.1 Hq3.out (by have h1 := (h.2.2.1 j hlt).1; exact h1.2.2.1))).symm, (by repeat (first | exact Ext.refl _ | assumption | refine Ext.alloc ?_ _ | refine Ext.drew ?_ | refine Ext.drewN ?_ _ | refine Ext.setCell ?_ (by first | (simp; done) | (simp; omega) | omega) _ | refine Ext.trans ?_ (by assumption)))⟩
          | true =>
            by_cases h4 : (nspAt P.ps j).fr ≤ (nspAt P.ps j).to
            case neg =>
              have d4 : decide ((nspAt P.ps j).to < (nspAt P.ps j).fr) = true := decide_eq_true (by omega)
              go_wp2_with fail
              (refine wp_region_onto prog_mixed (by kernel_rfl) ?_; (repeat (go_big_quiet_step ((first | (go_at_call 43; exact onto_callX (impl_isSmall_b Hq1.out _ (by decide))) | (go_at_call 42; first | with_reducible exact onto_callS (impl_isDay_b Hq2.out _) | with_reducible exact onto_callS (impl_isDay_b Hq3.out _)))))); refine onto_end ?_; intro w1 hx1)
              go_wp2_with fail
              go_ret
              exact ⟨ret_bool (B_false (fun h => by have := (h.2.2.1 j hlt).1.2.2.2; omega)).symm, (by repeat (first | exact Ext.refl _ | assumption | refine Ext.alloc ?_ _ | refine Ext.drew ?_ | refine Ext.drewN ?_ _ | refine Ext.setCell ?_ (by first | (simp; done) | (simp; omega) | omega) _ | refine Ext.trans ?_ (by assumption)))⟩
            have d4 : decide ((nspAt P.ps j).to < (nspAt P.ps j).fr) = false := decide_eq_false (by omega)
            have Hn := Lib.hid (show NspOk (nspAt P.ps j) from ⟨B_iff.1 Hq1.out, B_iff.1 Hq2.out, B_iff.1 Hq3.out, h4⟩)
            by_cases h0 : 0 < j
            · have hb0 : decide ((0 : Int) < (j : Int)) = true := by simp; omega
              obtain ⟨b', off', e, _, _, k1, k2, k3⟩ := (Hp.out.ext hx (Nat.le_refl _)).at_ (i := j - 1) (by omega)
              injection e with e
              injection e with e1 e2
              subst e1 e2
              have hq0 : (0 : Int) ≤ (j : Int) - 1 := by omega
              have hq1 : (j : Int) - 1 < (P.ps.length : Int) := by omega
              have hq2 : ((j : Int) - 1).toNat = j - 1 := by omega
              by_cases hs : sLt (nspAt P.ps (j - 1)).nm (nspAt P.ps j).nm
              · have T1 := sl_false (sLt_asym hs)
                have T2 := str_ne (fun e => sLt_ne hs e.symm)
                have Hs := Lib.hid hs
                clear hs
                go_wp2_with fail
                (refine wp_region_onto prog_mixed (by kernel_rfl) ?_; (repeat (go_big_quiet_step ((first | (go_at_call 43; exact onto_callX (impl_isSmall_b Hq1.out _ (by decide))) | (go_at_call 42; first | with_reducible exact onto_callS (impl_isDay_b Hq2.out _) | with_reducible exact onto_callS (impl_isDay_b Hq3.out _)))))); refine onto_end ?_; intro w1 hx1)
                go_wp2_with fail
                go_roundg (P.ps.length - (j + 1))
                case measure => omega
                case rel => exact ⟨j + 1, by omega, by go_num, (by repeat (first | exact Ext.refl _ | assumption | refine Ext.alloc ?_ _ | refine Ext.drew ?_ | refine Ext.drewN ?_ _ | refine Ext.setCell ?_ (by first | (simp; done) | (simp; omega) | omega) _ | refine Ext.trans ?_ (by assumption))), ps_step Hok.out ⟨Hn.out, fun _ => Hs.out⟩⟩
              · by_cases hs2 : sLt (nspAt P.ps j).nm (nspAt P.ps (j - 1)).nm
                · have T1 := sl_true hs2
                  have Hs := Lib.hid hs
                  clear hs hs2
                  go_wp2_with fail
                  (refine wp_region_onto prog_mixed (by kernel_rfl) ?_; (repeat (go_big_quiet_step ((first | (go_at_call 43; exact onto_callX (impl_isSmall_b Hq1.out _ (by decide))) | (go_at_call 42; first | with_reducible exact onto_callS (impl_isDay_b Hq2.out _) | with_reducible exact onto_callS (impl_isDay_b Hq3.out _)))))); refine onto_end ?_; intro w1 hx1)
                  go_wp2_with fail
                  go_ret
                  exact ⟨ret_bool (B_false (fun h => Hs.out ((h.2.2.1 j hlt).2 h0))).symm, (by repeat (first | exact Ext.refl _ | assumption | refine Ext.alloc ?_ _ | refine Ext.drew ?_ | refine Ext.drewN ?_ _ | refine Ext.setCell ?_ (by first | (simp; done) | (simp; omega) | omega) _ | refine Ext.trans ?_ (by assumption)))⟩
                · have T1 := sl_false hs2
                  have T2 := str_is (sLt_tri hs2 hs)
                  have Hs := Lib.hid hs
                  clear hs hs2
                  go_wp2_with fail
                  (refine wp_region_onto prog_mixed (by kernel_rfl) ?_; (repeat (go_big_quiet_step ((first | (go_at_call 43; exact onto_callX (impl_isSmall_b Hq1.out _ (by decide))) | (go_at_call 42; first | with_reducible exact onto_callS (impl_isDay_b Hq2.out _) | with_reducible exact onto_callS (impl_isDay_b Hq3.out _)))))); refine onto_end ?_; intro w1 hx1)
                  go_wp2_with fail
                  go_ret
                  exact ⟨ret_bool (B_false (fun h => Hs.out ((h.2.2.1 j hlt).2 h0))).symm, (by repeat (first | exact Ext.refl _ | assumption | refine Ext.alloc ?_ _ | refine Ext.drew ?_ | refine Ext.drewN ?_ _ | refine Ext.setCell ?_ (by first | (simp; done) | (simp; omega) | omega) _ | refine Ext.trans ?_ (by assumption)))⟩
            · have hb0 : decide ((0 : Int) < (j : Int)) = false := by simp; omega
              go_wp2_with fail
              (refine wp_region_onto prog_mixed (by kernel_rfl) ?_; (repeat (go_big_quiet_step ((first | (go_at_call 43; exact onto_callX (impl_isSmall_b Hq1.out _ (by decide))) | (go_at_call 42; first | with_reducible exact onto_callS (impl_isDay_b Hq2.out _) | with_reducible exact onto_callS (impl_isDay_b Hq3.out _)))))); refine onto_end ?_; intro w1 hx1)
              go_wp2_with fail
              go_roundg (P.ps.length - (j + 1))
              case measure => omega
              case rel => exact ⟨j + 1, by omega, by go_num, (by repeat (first | exact Ext.refl _ | assumption | refine Ext.alloc ?_ _ | refine Ext.drew ?_ | refine Ext.drewN ?_ _ | refine Ext.setCell ?_ (by first | (simp; done) | (simp; omega) | omega) _ | refine Ext.trans ?_ (by assumption))), ps_step Hok.out ⟨Hn.out, fun hh => absurd hh h0⟩⟩
    · obtain rfl : j = P.ps.length := by omega
      have hji : ¬ (P.ps.length : Int) < (P.ps.length : Int) := by omega
      have Hps := Lib.hid (show ∀ i, i < P.ps.length → PsStep P.ps i from Hok.out)
      clear hlt bxg1
      obtain ⟨wz, rfl⟩ : ∃ x : World, x = wr := ⟨_, rfl⟩
      go_wp2_with fail
      go_loopg [6, 7, 69] P.tm.length (fun q u6 u7 i wr => ∃ j : Nat, j + q = P.tm.length ∧ i = .int .i64 j ∧ Ext wz wr ∧ ∀ i, i < j → TrmOk P.ps (trmAt P.tm i))
      case atStart => exact ⟨0, by omega, rfl, (by repeat (first | exact Ext.refl _ | assumption | refine Ext.alloc ?_ _ | refine Ext.drew ?_ | refine Ext.drewN ?_ _ | refine Ext.setCell ?_ (by first | (simp; done) | (simp; omega) | omega) _ | refine Ext.trans ?_ (by assumption))), fun i hi => absurd hi (by omega)⟩
      case round =>
        obtain ⟨j, hj, rfl, hxz, hok⟩ := hrel
        have Htm := Lib.hid hok
        clear hok bx0 bx1 bxg
        have hx2 : Ext w wr := (by repeat (first | exact Ext.refl _ | assumption | refine Ext.alloc ?_ _ | refine Ext.drew ?_ | refine Ext.drewN ?_ _ | refine Ext.setCell ?_ (by first | (simp; done) | (simp; omega) | omega) _ | refine Ext.trans ?_ (by assumption)))
        have bx := Hbx.out.ext hxz
        have bx0 := bx.at0
        have bx1 := bx.at1
        have bxg := bx.1
        have Hby := Lib.hid bx
        clear bx
        have bxg1 : w.heap.size < wr.heap.size + 1 := by omega
        have hj0 : (0 : Int) ≤ (j : Int) := by omega
        by_cases hlt : j < P.tm.length
        · obtain ⟨b, off, rfl, _, hb, h1, h2, h3, h4⟩ := (Ht.out.ext hx2 (Nat.le_refl _)).at_ hlt
          have hbr : b < wr.heap.size := Nat.lt_of_lt_of_le hb hx2.size
          have hbr1 : b < wr.heap.size + 1 := by omega
          have hji : (j : Int) < (P.tm.length : Int) := by omega
          go_wp2_with fail
          refine Calls.mono (impl_personIndex _ _ P.ps (trmAt P.tm j).pe _ (Hp.out.up (by repeat (first | exact Ext.refl _ | assumption | refine Ext.alloc ?_ _ | refine Ext.drew ?_ | refine Ext.drewN ?_ _ | refine Ext.setCell ?_ (by first | (simp; done) | (simp; omega) | omega) _ | refine Ext.trans ?_ (by assumption))))) ?_
          rintro e w3 ⟨rfl, hx3⟩
          have bt := (Boxed.new wr [.string (trmAt P.tm j).of, .string (trmAt P.tm j).pe, .int .i64 (trmAt P.tm j).fr, .int .i64 (trmAt P.tm j).to] 162).ext hx3; have bt0 := bt.at0; have bt1 := bt.at1; have bt2 := bt.at2; have bt3 := bt.at3; have btg := bt.1; have Hbt := Lib.hid bt; clear bt
          have hxr3 : Ext wr w3 := (by repeat (first | exact Ext.refl _ | assumption | refine Ext.alloc ?_ _ | refine Ext.drew ?_ | refine Ext.drewN ?_ _ | refine Ext.setCell ?_ (by first | (simp; done) | (simp; omega) | omega) _ | refine Ext.trans ?_ (by assumption)))
          clear bx0 bx1 bxg bxg1
          have bx := Hby.out.ext hxr3
          have bx0 := bx.at0
          have bx1 := bx.at1
          have bxg := bx.1
          clear bx
          have hx3w : Ext w w3 := hx2.trans hxr3
          clear h1 h2 h3 h4 hbr hbr1
          obtain ⟨k, hk⟩ : ∃ k, psIx P.ps (trmAt P.tm j).pe = k := ⟨_, rfl⟩
          have Hk := Lib.hid hk
          rw [hk]
          obtain ⟨q1, eq1⟩ : ∃ b, B (NameOk (trmAt P.tm j).of 12) = b := ⟨_, rfl⟩
          have Hq1 := Lib.hid eq1
          clear eq1
          by_cases hk0 : 0 ≤ k
          case neg =>
            have dk : decide (k < 0) = true := decide_eq_true (by omega)
            go_wp2_with fail
            (refine wp_region_onto prog_mixed (by kernel_rfl) ?_; (repeat (go_big_quiet_step ((first | (go_at_call 43; exact onto_callX (impl_isSmall_b Hq1.out _ (by decide))))))); refine onto_end ?_; intro w1 hx1)
            go_wp2_with fail
            go_ret
            exact ⟨ret_bool (B_false (fun h => by have hh := h.2.2.2 j hlt; rw [TrmOk, Hk.out] at hh; exact by have := hh.1; omega)).symm, (by repeat (first | exact Ext.refl _ | assumption | refine Ext.alloc ?_ _ | refine Ext.drew ?_ | refine Ext.drewN ?_ _ | refine Ext.setCell ?_ (by first | (simp; done) | (simp; omega) | omega) _ | refine Ext.trans ?_ (by assumption)))⟩
          have dk : decide (k < 0) = false := decide_eq_false (by omega)
          cases q1 with
          | false =>
            go_wp2_with fail
            (refine wp_region_onto prog_mixed (by kernel_rfl) ?_; (repeat (go_big_quiet_step ((first | (go_at_call 43; exact onto_callX (impl_isSmall_b Hq1.out _ (by decide))))))); refine onto_end ?_; intro w1 hx1)
            go_wp2_with fail
            go_ret
            exact ⟨ret_bool (B_false (fun h => by have hh := h.2.2.2 j hlt; rw [TrmOk, Hk.out] at hh; exact B_not.1 Hq1.out hh.2.1)).symm, (by repeat (first | exact Ext.refl _ | assumption | refine Ext.alloc ?_ _ | refine Ext.drew ?_ | refine Ext.drewN ?_ _ | refine Ext.setCell ?_ (by first | (simp; done) | (simp; omega) | omega) _ | refine Ext.trans ?_ (by assumption)))⟩
          | true =>
            have hkl := psIx_lt (l := P.ps) (name := (trmAt P.tm j).pe) (by rw [hk]; exact hk0)
            rw [hk] at hkl
            obtain ⟨hkl, hke⟩ := hkl
            have hklt : k < (P.ps.length : Int) := by omega
            obtain ⟨bp, op, e, _, hbp, k1, k2, k3⟩ := (Hp.out.ext hx3w (Nat.le_refl _)).at_ (i := k.toNat) hkl
            subst e
            have hbpr : bp < w3.heap.size := Nat.lt_of_lt_of_le hbp hx3w.size
            by_cases h5 : (trmAt P.tm j).fr ≤ (trmAt P.tm j).to
            case neg =>
              have d5 : decide ((trmAt P.tm j).to < (trmAt P.tm j).fr) = true := decide_eq_true (by omega)
              go_wp2_with fail
              (refine wp_region_onto prog_mixed (by kernel_rfl) ?_; (repeat (go_big_quiet_step ((first | (go_at_call 43; exact onto_callX (impl_isSmall_b Hq1.out _ (by decide))))))); refine onto_end ?_; intro w1 hx1)
              go_wp2_with fail
              go_ret
              exact ⟨ret_bool (B_false (fun h => by have hh := h.2.2.2 j hlt; rw [TrmOk, Hk.out] at hh; exact by have := hh.2.2.1; omega)).symm, (by repeat (first | exact Ext.refl _ | assumption | refine Ext.alloc ?_ _ | refine Ext.drew ?_ | refine Ext.drewN ?_ _ | refine Ext.setCell ?_ (by first | (simp; done) | (simp; omega) | omega) _ | refine Ext.trans ?_ (by assumption)))⟩
            have d5 : decide ((trmAt P.tm j).to < (trmAt P.tm j).fr) = false := decide_eq_false (by omega)
            by_cases h6 : (nspAt P.ps k.toNat).fr ≤ (trmAt P.tm j).fr
            case neg =>
              have d6 : decide ((trmAt P.tm j).fr < (nspAt P.ps k.toNat).fr) = true := decide_eq_true (by omega)
              go_wp2_with fail
              (refine wp_region_onto prog_mixed (by kernel_rfl) ?_; (repeat (go_big_quiet_step ((first | (go_at_call 43; exact onto_callX (impl_isSmall_b Hq1.out _ (by decide))))))); refine onto_end ?_; intro w1 hx1)
              go_wp2_with fail
              go_ret
              exact ⟨ret_bool (B_false (fun h => by have hh := h.2.2.2 j hlt; rw [TrmOk, Hk.out] at hh; exact by have := hh.2.2.2.1; omega)).symm, (by repeat (first | exact Ext.refl _ | assumption | refine Ext.alloc ?_ _ | refine Ext.drew ?_ | refine Ext.drewN ?_ _ | refine Ext.setCell ?_ (by first | (simp; done) | (simp; omega) | omega) _ | refine Ext.trans ?_ (by assumption)))⟩
            have d6 : decide ((trmAt P.tm j).fr < (nspAt P.ps k.toNat).fr) = false := decide_eq_false (by omega)
            by_cases h7 : (trmAt P.tm j).to ≤ (nspAt P.ps k.toNat).to
            case neg =>
              have d7 : decide ((nspAt P.ps k.toNat).to < (trmAt P.tm j).to) = true := decide_eq_true (by omega)
              go_wp2_with fail
              (refine wp_region_onto prog_mixed (by kernel_rfl) ?_; (repeat (go_big_quiet_step ((first | (go_at_call 43; exact onto_callX (impl_isSmall_b Hq1.out _ (by decide))))))); refine onto_end ?_; intro w1 hx1)
              go_wp2_with fail
              go_ret
              exact ⟨ret_bool (B_false (fun h => by have hh := h.2.2.2 j hlt; rw [TrmOk, Hk.out] at hh; exact by have := hh.2.2.2.2; omega)).symm, (by repeat (first | exact Ext.refl _ | assumption | refine Ext.alloc ?_ _ | refine Ext.drew ?_ | refine Ext.drewN ?_ _ | refine Ext.setCell ?_ (by first | (simp; done) | (simp; omega) | omega) _ | refine Ext.trans ?_ (by assumption)))⟩
            have d7 : decide ((nspAt P.ps k.toNat).to < (trmAt P.tm j).to) = false := decide_eq_false (by omega)
            have Hn := Lib.hid (show TrmOk P.ps (trmAt P.tm j) from by rw [TrmOk, Hk.out]; exact ⟨hk0, B_iff.1 Hq1.out, h5, h6, h7⟩)
            go_wp2_with fail
            (refine wp_region_onto prog_mixed (by kernel_rfl) ?_; (repeat (go_big_quiet_step ((first | (go_at_call 43; exact onto_callX (impl_isSmall_b Hq1.out _ (by decide))))))); refine onto_end ?_; intro w1 hx1)
            go_wp2_with fail
            go_roundg (P.tm.length - (j + 1))
            case measure => omega
            case rel => exact ⟨j + 1, by omega, by go_num, (hxz.trans hxr3).trans (by repeat (first | exact Ext.refl _ | assumption | refine Ext.alloc ?_ _ | refine Ext.drew ?_ | refine Ext.drewN ?_ _ | refine Ext.setCell ?_ (by first | (simp; done) | (simp; omega) | omega) _ | refine Ext.trans ?_ (by assumption))), fun i hi => by
              by_cases e : i = j
              · rw [e]; exact Hn.out
              · exact Htm.out i (by omega)⟩
        · obtain rfl : j = P.tm.length := by omega
          have hji : ¬ (P.tm.length : Int) < (P.tm.length : Int) := by omega
          clear hlt
          go_wp2_with fail
          go_ret
          exact ⟨ret_bool (B_true ⟨hl1, hl2, Hps.out, Htm.out⟩).symm, (by repeat (first | exact Ext.refl _ | assumption | refine Ext.alloc ?_ _ | refine Ext.drew ?_ | refine Ext.drewN ?_ _ | refine Ext.setCell ?_ (by first | (simp; done) | (simp; omega) | omega) _ | refine Ext.trans ?_ (by assumption)))⟩
end Go.Proofs.YtbddkmlfjghllaaGreatDoor

/- Contract: IsPeople, the reference's. (Printed by genKc.py.) -/
namespace Go.Proofs.YtbddkmlfjghllaaGreatDoor
set_option linter.unusedVariables false
set_option linter.unusedSimpArgs false
open Go.RowKit
attribute [local go_sem] cell_onto

set_option maxRecDepth 100000 in
set_option maxHeartbeats 16000000 in
theorem spec_IsPeople (v u : Value) (P : Ppl) (w : World) (hp : Nsps w 0 w.heap.size v P.ps) (ht : Trms w 0 w.heap.size u P.tm) (hsm : NSm P.ps) (hst : ∀ i, i < P.tm.length → (trmAt P.tm i).of.size ≤ 1048576) : Calls Tryz.prog 65 #[.agg #[v, u]] w (RetX (.bool (B (PplOk P))) w) := by
  obtain ⟨Ap, cp, rfl, _, hcp⟩ := hp.len
  obtain ⟨At, ct, rfl, _, hct⟩ := ht.len
  have Hp := Lib.hid hp
  have Ht := Lib.hid ht
  clear hp ht
  have Hsm := Lib.hid hsm
  have Hst := Lib.hid hst
  clear hsm hst
  have Hb := Lib.hid (Boxed.new w [.slice Ap P.ps.length cp, .slice At P.tm.length ct] 66)
  go_enter Tryz.func65, Tryz.ntmps65
  go_wp2_with fail
  go_loopg [3, 4] P.ps.length (fun q i u4 wr => ∃ j : Nat, j + q = P.ps.length ∧ i = .int .i64 j ∧ Ext (w.alloc (.cells #[.slice Ap P.ps.length cp, .slice At P.tm.length ct] 66)) wr ∧ ∀ i, i < j → PsStep P.ps i)
  case atStart => exact ⟨0, by omega, rfl, (by repeat (first | exact Ext.refl _ | assumption | refine Ext.alloc ?_ _ | refine Ext.drew ?_ | refine Ext.drewN ?_ _ | refine Ext.setCell ?_ (by first | (simp; done) | (simp; omega) | omega) _ | refine Ext.trans ?_ (by assumption))), fun i hi => absurd hi (by omega)⟩
  case round =>
    obtain ⟨j, hj, rfl, hx0, hok⟩ := hrel
    have Hok := Lib.hid hok
    clear hok
    have hx : Ext w wr := (by repeat (first | exact Ext.refl _ | assumption | refine Ext.alloc ?_ _ | refine Ext.drew ?_ | refine Ext.drewN ?_ _ | refine Ext.setCell ?_ (by first | (simp; done) | (simp; omega) | omega) _ | refine Ext.trans ?_ (by assumption)))
    have bx := Hb.out.ext hx0; have bx0 := bx.at0; have bx1 := bx.at1; have bxg := bx.1; have Hbx := Lib.hid bx; clear bx
    have bxg1 : w.heap.size < wr.heap.size + 1 := by omega
    have hj0 : (0 : Int) ≤ (j : Int) := by omega
    by_cases hlt : j < P.ps.length
    · obtain ⟨b, off, rfl, _, hb, h1, h2, h3⟩ := (Hp.out.ext hx (Nat.le_refl _)).at_ hlt
      have hbr : b < wr.heap.size := Nat.lt_of_lt_of_le hb hx.size
      have hbr1 : b < wr.heap.size + 1 := by omega
      have hji : (j : Int) < (P.ps.length : Int) := by omega
      have hsz := Hsm.out j hlt
      obtain ⟨q1, eq1⟩ : ∃ b, B (NameOk (nspAt P.ps j).nm 12) = b := ⟨_, rfl⟩
      have Hq1 := Lib.hid eq1
      clear eq1
      obtain ⟨q2, eq2⟩ : ∃ b, B (SpOk ⟨(nspAt P.ps j).fr, (nspAt P.ps j).to⟩) = b := ⟨_, rfl⟩
      have Hq2 := Lib.hid eq2
      clear eq2
      cases q1 with
      | false =>
        go_wp2_with fail
        (refine wp_region_onto prog_mixed (by kernel_rfl) ?_; (repeat (go_big_quiet_step ((first | (go_at_call 49; exact onto_callS (spec_l01Name_b Hq1.out _ (by omega))) | (go_at_call 95; exact onto_callX (spec_l13Span_b Hq2.out _)))))); refine onto_end ?_; intro w1 hx1)
        go_wp2_with fail
        go_ret
        exact ⟨ret_bool (B_false (fun h => B_not.1 Hq1.out (by have h1 := (h.2.2.1 j hlt).1; exact h1.1))).symm, (by repeat (first | exact Ext.refl _ | assumption | refine Ext.alloc ?_ _ | refine Ext.drew ?_ | refine Ext.drewN ?_ _ | refine Ext.setCell ?_ (by first | (simp; done) | (simp; omega) | omega) _ | refine Ext.trans ?_ (by assumption)))⟩
      | true =>
        cases q2 with
        | false =>
          go_wp2_with fail
          (refine wp_region_onto prog_mixed (by kernel_rfl) ?_; (repeat (go_big_quiet_step ((first | (go_at_call 49; exact onto_callS (spec_l01Name_b Hq1.out _ (by omega))) | (go_at_call 95; exact onto_callX (spec_l13Span_b Hq2.out _)))))); refine onto_end ?_; intro w1 hx1)
          go_wp2_with fail
          go_ret
          exact ⟨ret_bool (B_false (fun h => B_not.1 Hq2.out (by have h1 := (h.2.2.1 j hlt).1; exact h1.2))).symm, (by repeat (first | exact Ext.refl _ | assumption | refine Ext.alloc ?_ _ | refine Ext.drew ?_ | refine Ext.drewN ?_ _ | refine Ext.setCell ?_ (by first | (simp; done) | (simp; omega) | omega) _ | refine Ext.trans ?_ (by assumption)))⟩
        | true =>
          have Hn := Lib.hid (show NspOk (nspAt P.ps j) from ⟨B_iff.1 Hq1.out, B_iff.1 Hq2.out⟩)
          by_cases h0 : 0 < j
          · have hb0 : decide ((0 : Int) < (j : Int)) = true := by simp; omega
            obtain ⟨b', off', e, _, _, k1, k2, k3⟩ := (Hp.out.ext hx (Nat.le_refl _)).at_ (i := j - 1) (by omega)
            injection e with e
            injection e with e1 e2
            subst e1 e2
            have hq0 : (0 : Int) ≤ (j : Int) - 1 := by omega
            have hq1 : (j : Int) - 1 < (P.ps.length : Int) := by omega
            have hq2 : ((j : Int) - 1).toNat = j - 1 := by omega
            by_cases hs : sLt (nspAt P.ps (j - 1)).nm (nspAt P.ps j).nm
            · have T1 := sl_false (sLt_asym hs)
              have T2 := str_ne (fun e => sLt_ne hs e.symm)
              have Hs := Lib.hid hs
              clear hs
              go_wp2_with fail
              (refine wp_region_onto prog_mixed (by kernel_rfl) ?_; (repeat (go_big_quiet_step ((first | (go_at_call 49; exact onto_callS (spec_l01Name_b Hq1.out _ (by omega))) | (go_at_call 95; exact onto_callX (spec_l13Span_b Hq2.out _)))))); refine onto_end ?_; intro w1 hx1)
              go_wp2_with fail
              go_roundg (P.ps.length - (j + 1))
              case measure => omega
              case rel => exact ⟨j + 1, by omega, by go_num, (by repeat (first | exact Ext.refl _ | assumption | refine Ext.alloc ?_ _ | refine Ext.drew ?_ | refine Ext.drewN ?_ _ | refine Ext.setCell ?_ (by first | (simp; done) | (simp; omega) | omega) _ | refine Ext.trans ?_ (by assumption))), ps_step Hok.out ⟨Hn.out, fun _ => Hs.out⟩⟩
            · by_cases hs2 : sLt (nspAt P.ps j).nm (nspAt P.ps (j - 1)).nm
              · have T1 := sl_true hs2
                have Hs := Lib.hid hs
                clear hs hs2
                go_wp2_with fail
                (refine wp_region_onto prog_mixed (by kernel_rfl) ?_; (repeat (go_big_quiet_step ((first | (go_at_call 49; exact onto_callS (spec_l01Name_b Hq1.out _ (by omega))) | (go_at_call 95; exact onto_callX (spec_l13Span_b Hq2.out _)))))); refine onto_end ?_; intro w1 hx1)
                go_wp2_with fail
                go_ret
                exact ⟨ret_bool (B_false (fun h => Hs.out ((h.2.2.1 j hlt).2 h0))).symm, (by repeat (first | exact Ext.refl _ | assumption | refine Ext.alloc ?_ _ | refine Ext.drew ?_ | refine Ext.drewN ?_ _ | refine Ext.setCell ?_ (by first | (simp; done) | (simp; omega) | omega) _ | refine Ext.trans ?_ (by assumption)))⟩
              · have T1 := sl_false hs2
                have T2 := str_is (sLt_tri hs2 hs)
                have Hs := Lib.hid hs
                clear hs hs2
                go_wp2_with fail
                (refine wp_region_onto prog_mixed (by kernel_rfl) ?_; (repeat (go_big_quiet_step ((first | (go_at_call 49; exact onto_callS (spec_l01Name_b Hq1.out _ (by omega))) | (go_at_call 95; exact onto_callX (spec_l13Span_b Hq2.out _)))))); refine onto_end ?_; intro w1 hx1)
                go_wp2_with fail
                go_ret
                exact ⟨ret_bool (B_false (fun h => Hs.out ((h.2.2.1 j hlt).2 h0))).symm, (by repeat (first | exact Ext.refl _ | assumption | refine Ext.alloc ?_ _ | refine Ext.drew ?_ | refine Ext.drewN ?_ _ | refine Ext.setCell ?_ (by first | (simp; done) | (simp; omega) | omega) _ | refine Ext.trans ?_ (by assumption)))⟩
          · have hb0 : decide ((0 : Int) < (j : Int)) = false := by simp; omega
            go_wp2_with fail
            (refine wp_region_onto prog_mixed (by kernel_rfl) ?_; (repeat (go_big_quiet_step ((first | (go_at_call 49; exact onto_callS (spec_l01Name_b Hq1.out _ (by omega))) | (go_at_call 95; exact onto_callX (spec_l13Span_b Hq2.out _)))))); refine onto_end ?_; intro w1 hx1)
            go_wp2_with fail
            go_roundg (P.ps.length - (j + 1))
            case measure => omega
            case rel => exact ⟨j + 1, by omega, by go_num, (by repeat (first | exact Ext.refl _ | assumption | refine Ext.alloc ?_ _ | refine Ext.drew ?_ | refine Ext.drewN ?_ _ | refine Ext.setCell ?_ (by first | (simp; done) | (simp; omega) | omega) _ | refine Ext.trans ?_ (by assumption))), ps_step Hok.out ⟨Hn.out, fun hh => absurd hh h0⟩⟩
    · obtain rfl : j = P.ps.length := by omega
      have hji : ¬ (P.ps.length : Int) < (P.ps.length : Int) := by omega
      have Hps := Lib.hid (show ∀ i, i < P.ps.length → PsStep P.ps i from Hok.out)
      clear hlt bxg1
      obtain ⟨wz, rfl⟩ : ∃ x : World, x = wr := ⟨_, rfl⟩
      go_wp2_with fail
      go_loopg [5, 6, 7] P.tm.length (fun q i u6 u7 wr => ∃ j : Nat, j + q = P.tm.length ∧ i = .int .i64 j ∧ Ext wz wr ∧ ∀ i, i < j → TrmOk P.ps (trmAt P.tm i))
      case atStart => exact ⟨0, by omega, rfl, (by repeat (first | exact Ext.refl _ | assumption | refine Ext.alloc ?_ _ | refine Ext.drew ?_ | refine Ext.drewN ?_ _ | refine Ext.setCell ?_ (by first | (simp; done) | (simp; omega) | omega) _ | refine Ext.trans ?_ (by assumption))), fun i hi => absurd hi (by omega)⟩
      case round =>
        obtain ⟨j, hj, rfl, hxz, hok⟩ := hrel
        have Htm := Lib.hid hok
        clear hok bx0 bx1 bxg
        have hx2 : Ext w wr := (by repeat (first | exact Ext.refl _ | assumption | refine Ext.alloc ?_ _ | refine Ext.drew ?_ | refine Ext.drewN ?_ _ | refine Ext.setCell ?_ (by first | (simp; done) | (simp; omega) | omega) _ | refine Ext.trans ?_ (by assumption)))
        have bx := Hbx.out.ext hxz
        have bx0 := bx.at0
        have bx1 := bx.at1
        have bxg := bx.1
        have Hby := Lib.hid bx
        clear bx
        have bxg1 : w.heap.size < wr.heap.size + 1 := by omega
        have hj0 : (0 : Int) ≤ (j : Int) := by omega
        by_cases hlt : j < P.tm.length
        · obtain ⟨b, off, rfl, _, hb, h1, h2, h3, h4⟩ := (Ht.out.ext hx2 (Nat.le_refl _)).at_ hlt
          have hbr : b < wr.heap.size := Nat.lt_of_lt_of_le hb hx2.size
          have hbr1 : b < wr.heap.size + 1 := by omega
          have hji : (j : Int) < (P.tm.length : Int) := by omega
          have hsz := Hst.out j hlt
          go_wp2_with fail
          refine Calls.mono (spec_l13Person _ _ P.ps (trmAt P.tm j).pe _ (Hp.out.up (by repeat (first | exact Ext.refl _ | assumption | refine Ext.alloc ?_ _ | refine Ext.drew ?_ | refine Ext.drewN ?_ _ | refine Ext.setCell ?_ (by first | (simp; done) | (simp; omega) | omega) _ | refine Ext.trans ?_ (by assumption))))) ?_
          rintro e w3 ⟨rfl, hx3⟩
          have bt := (Boxed.new wr [.string (trmAt P.tm j).of, .string (trmAt P.tm j).pe, .int .i64 (trmAt P.tm j).fr, .int .i64 (trmAt P.tm j).to] 162).ext hx3; have bt0 := bt.at0; have bt1 := bt.at1; have bt2 := bt.at2; have bt3 := bt.at3; have btg := bt.1; have Hbt := Lib.hid bt; clear bt
          have hxr3 : Ext wr w3 := (by repeat (first | exact Ext.refl _ | assumption | refine Ext.alloc ?_ _ | refine Ext.drew ?_ | refine Ext.drewN ?_ _ | refine Ext.setCell ?_ (by first | (simp; done) | (simp; omega) | omega) _ | refine Ext.trans ?_ (by assumption)))
          clear bx0 bx1 bxg bxg1
          have bx := Hby.out.ext hxr3
          have bx0 := bx.at0
          have bx1 := bx.at1
          have bxg := bx.1
          clear bx
          have hx3w : Ext w w3 := hx2.trans hxr3
          clear h1 h2 h3 h4 hbr hbr1
          obtain ⟨k, hk⟩ : ∃ k, psIx P.ps (trmAt P.tm j).pe = k := ⟨_, rfl⟩
          have Hk := Lib.hid hk
          rw [hk]
          obtain ⟨q1, eq1⟩ : ∃ b, B (NameOk (trmAt P.tm j).of 12) = b := ⟨_, rfl⟩
          have Hq1 := Lib.hid eq1
          clear eq1
          obtain ⟨q2, eq2⟩ : ∃ b, B (SpOk ⟨(trmAt P.tm j).fr, (trmAt P.tm j).to⟩) = b := ⟨_, rfl⟩
          have Hq2 := Lib.hid eq2
          clear eq2
          cases q1 with
          | false =>
            go_wp2_with fail
            (refine wp_region_onto prog_mixed (by kernel_rfl) ?_; (repeat (go_big_quiet_step ((first | (go_at_call 49; exact onto_callS (spec_l01Name_b Hq1.out _ (by omega))) | (go_at_call 95; exact onto_callX (spec_l13Span_b Hq2.out _)))))); refine onto_end ?_; intro w1 hx1)
            go_wp2_with fail
            go_ret
            exact ⟨ret_bool (B_false (fun h => by have hh := h.2.2.2 j hlt; rw [TrmOk, Hk.out] at hh; exact B_not.1 Hq1.out hh.2.1)).symm, (by repeat (first | exact Ext.refl _ | assumption | refine Ext.alloc ?_ _ | refine Ext.drew ?_ | refine Ext.drewN ?_ _ | refine Ext.setCell ?_ (by first | (simp; done) | (simp; omega) | omega) _ | refine Ext.trans ?_ (by assumption)))⟩
          | true =>
            by_cases hk0 : 0 ≤ k
            case neg =>
              have dk : decide (k < 0) = true := decide_eq_true (by omega)
              go_wp2_with fail
              (refine wp_region_onto prog_mixed (by kernel_rfl) ?_; (repeat (go_big_quiet_step ((first | (go_at_call 49; exact onto_callS (spec_l01Name_b Hq1.out _ (by omega))) | (go_at_call 95; exact onto_callX (spec_l13Span_b Hq2.out _)))))); refine onto_end ?_; intro w1 hx1)
              go_wp2_with fail
              go_ret
              exact ⟨ret_bool (B_false (fun h => by have hh := h.2.2.2 j hlt; rw [TrmOk, Hk.out] at hh; exact by have := hh.1; omega)).symm, (by repeat (first | exact Ext.refl _ | assumption | refine Ext.alloc ?_ _ | refine Ext.drew ?_ | refine Ext.drewN ?_ _ | refine Ext.setCell ?_ (by first | (simp; done) | (simp; omega) | omega) _ | refine Ext.trans ?_ (by assumption)))⟩
            have dk : decide (k < 0) = false := decide_eq_false (by omega)
            have hkl := psIx_lt (l := P.ps) (name := (trmAt P.tm j).pe) (by rw [hk]; exact hk0)
            rw [hk] at hkl
            obtain ⟨hkl, hke⟩ := hkl
            have hklt : k < (P.ps.length : Int) := by omega
            obtain ⟨bp, op, e, _, hbp, k1, k2, k3⟩ := (Hp.out.ext hx3w (Nat.le_refl _)).at_ (i := k.toNat) hkl
            subst e
            have hbpr : bp < w3.heap.size := Nat.lt_of_lt_of_le hbp hx3w.size
            have Hday := Lib.hid (fun (h1 : (trmAt P.tm j).fr ≤ (trmAt P.tm j).to) (h2 : (nspAt P.ps k.toNat).fr ≤ (trmAt P.tm j).fr) (h3 : (trmAt P.tm j).to ≤ (nspAt P.ps k.toNat).to) => show SpOk ⟨(trmAt P.tm j).fr, (trmAt P.tm j).to⟩ from by
              obtain ⟨⟨_, ⟨d1, d2⟩, ⟨d3, d4⟩, _⟩, _⟩ := Hps.out _ hkl
              exact ⟨⟨by show (0:Int) ≤ (trmAt P.tm j).fr; omega, by show (trmAt P.tm j).fr ≤ 730499; omega⟩, ⟨by show (0:Int) ≤ (trmAt P.tm j).to; omega, by show (trmAt P.tm j).to ≤ 730499; omega⟩, h1⟩)
            cases q2 with
            | false =>
              go_wp2_with fail
              (refine wp_region_onto prog_mixed (by kernel_rfl) ?_; (repeat (go_big_quiet_step ((first | (go_at_call 49; exact onto_callS (spec_l01Name_b Hq1.out _ (by omega))) | (go_at_call 95; exact onto_callX (spec_l13Span_b Hq2.out _)))))); refine onto_end ?_; intro w1 hx1)
              go_wp2_with fail
              go_ret
              exact ⟨ret_bool (B_false (fun h => by have hh := h.2.2.2 j hlt; rw [TrmOk, Hk.out] at hh; exact B_not.1 Hq2.out (Hday.out hh.2.2.1 hh.2.2.2.1 hh.2.2.2.2))).symm, (by repeat (first | exact Ext.refl _ | assumption | refine Ext.alloc ?_ _ | refine Ext.drew ?_ | refine Ext.drewN ?_ _ | refine Ext.setCell ?_ (by first | (simp; done) | (simp; omega) | omega) _ | refine Ext.trans ?_ (by assumption)))⟩
            | true =>
              have h5 : (trmAt P.tm j).fr ≤ (trmAt P.tm j).to := (B_iff.1 Hq2.out).2.2
              by_cases h6 : (nspAt P.ps k.toNat).fr ≤ (trmAt P.tm j).fr
              case neg =>
                have d6 : decide ((trmAt P.tm j).fr < (nspAt P.ps k.toNat).fr) = true := decide_eq_true (by omega)
                go_wp2_with fail
                (refine wp_region_onto prog_mixed (by kernel_rfl) ?_; (repeat (go_big_quiet_step ((first | (go_at_call 49; exact onto_callS (spec_l01Name_b Hq1.out _ (by omega))) | (go_at_call 95; exact onto_callX (spec_l13Span_b Hq2.out _)))))); refine onto_end ?_; intro w1 hx1)
                go_wp2_with fail
                go_ret
                exact ⟨ret_bool (B_false (fun h => by have hh := h.2.2.2 j hlt; rw [TrmOk, Hk.out] at hh; exact by have := hh.2.2.2.1; omega)).symm, (by repeat (first | exact Ext.refl _ | assumption | refine Ext.alloc ?_ _ | refine Ext.drew ?_ | refine Ext.drewN ?_ _ | refine Ext.setCell ?_ (by first | (simp; done) | (simp; omega) | omega) _ | refine Ext.trans ?_ (by assumption)))⟩
              have d6 : decide ((trmAt P.tm j).fr < (nspAt P.ps k.toNat).fr) = false := decide_eq_false (by omega)
              by_cases h7 : (trmAt P.tm j).to ≤ (nspAt P.ps k.toNat).to
              case neg =>
                have d7 : decide ((nspAt P.ps k.toNat).to < (trmAt P.tm j).to) = true := decide_eq_true (by omega)
                go_wp2_with fail
                (refine wp_region_onto prog_mixed (by kernel_rfl) ?_; (repeat (go_big_quiet_step ((first | (go_at_call 49; exact onto_callS (spec_l01Name_b Hq1.out _ (by omega))) | (go_at_call 95; exact onto_callX (spec_l13Span_b Hq2.out _)))))); refine onto_end ?_; intro w1 hx1)
                go_wp2_with fail
                go_ret
                exact ⟨ret_bool (B_false (fun h => by have hh := h.2.2.2 j hlt; rw [TrmOk, Hk.out] at hh; exact by have := hh.2.2.2.2; omega)).symm, (by repeat (first | exact Ext.refl _ | assumption | refine Ext.alloc ?_ _ | refine Ext.drew ?_ | refine Ext.drewN ?_ _ | refine Ext.setCell ?_ (by first | (simp; done) | (simp; omega) | omega) _ | refine Ext.trans ?_ (by assumption)))⟩
              have d7 : decide ((nspAt P.ps k.toNat).to < (trmAt P.tm j).to) = false := decide_eq_false (by omega)
              have Hn := Lib.hid (show TrmOk P.ps (trmAt P.tm j) from by rw [TrmOk, Hk.out]; exact ⟨hk0, B_iff.1 Hq1.out, h5, h6, h7⟩)
              go_wp2_with fail
              (refine wp_region_onto prog_mixed (by kernel_rfl) ?_; (repeat (go_big_quiet_step ((first | (go_at_call 49; exact onto_callS (spec_l01Name_b Hq1.out _ (by omega))) | (go_at_call 95; exact onto_callX (spec_l13Span_b Hq2.out _)))))); refine onto_end ?_; intro w1 hx1)
              go_wp2_with fail
              go_roundg (P.tm.length - (j + 1))
              case measure => omega
              case rel => exact ⟨j + 1, by omega, by go_num, (hxz.trans hxr3).trans (by repeat (first | exact Ext.refl _ | assumption | refine Ext.alloc ?_ _ | refine Ext.drew ?_ | refine Ext.drewN ?_ _ | refine Ext.setCell ?_ (by first | (simp; done) | (simp; omega) | omega) _ | refine Ext.trans ?_ (by assumption))), fun i hi => by
                by_cases e : i = j
                · rw [e]; exact Hn.out
                · exact Htm.out i (by omega)⟩
        · obtain rfl : j = P.tm.length := by omega
          have hji : ¬ (P.tm.length : Int) < (P.tm.length : Int) := by omega
          clear hlt
          by_cases hl1 : P.ps.length ≤ 40
          case neg =>
            have d1 : decide ((P.ps.length : Int) ≤ 40) = false := decide_eq_false (by omega)
            go_wp2_with fail
            go_ret
            exact ⟨ret_bool (B_false (fun h => by have := h.1; omega)).symm, (by repeat (first | exact Ext.refl _ | assumption | refine Ext.alloc ?_ _ | refine Ext.drew ?_ | refine Ext.drewN ?_ _ | refine Ext.setCell ?_ (by first | (simp; done) | (simp; omega) | omega) _ | refine Ext.trans ?_ (by assumption)))⟩
          have d1 : decide ((P.ps.length : Int) ≤ 40) = true := decide_eq_true (by omega)
          by_cases hl2 : P.tm.length ≤ 60
          case neg =>
            have d2 : decide ((P.tm.length : Int) ≤ 60) = false := decide_eq_false (by omega)
            go_wp2_with fail
            go_ret
            exact ⟨ret_bool (B_false (fun h => by have := h.2.1; omega)).symm, (by repeat (first | exact Ext.refl _ | assumption | refine Ext.alloc ?_ _ | refine Ext.drew ?_ | refine Ext.drewN ?_ _ | refine Ext.setCell ?_ (by first | (simp; done) | (simp; omega) | omega) _ | refine Ext.trans ?_ (by assumption)))⟩
          have d2 : decide ((P.tm.length : Int) ≤ 60) = true := decide_eq_true (by omega)
          go_wp2_with fail
          go_ret
          exact ⟨ret_bool (B_true ⟨hl1, hl2, Hps.out, Htm.out⟩).symm, (by repeat (first | exact Ext.refl _ | assumption | refine Ext.alloc ?_ _ | refine Ext.drew ?_ | refine Ext.drewN ?_ _ | refine Ext.setCell ?_ (by first | (simp; done) | (simp; omega) | omega) _ | refine Ext.trans ?_ (by assumption)))⟩
end Go.Proofs.YtbddkmlfjghllaaGreatDoor
