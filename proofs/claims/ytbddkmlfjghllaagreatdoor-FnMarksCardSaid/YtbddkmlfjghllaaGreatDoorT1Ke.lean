/- Contracts: places and ways; IsLand, the program's. (Printed by genKe.py.) -/
import Derived.Test.YtbddkmlfjghllaaGreatDoorT1Ka
import Derived.Test.YtbddkmlfjghllaaGreatDoorT1Jc
namespace Go.Proofs.YtbddkmlfjghllaaGreatDoor
set_option linter.unusedVariables false
set_option linter.unusedSimpArgs false
open Go.RowKit
attribute [local go_sem] cell_onto

theorem impl_within_k {n lo hi : Int} {b : Bool} (hb : B (lo ≤ n ∧ n ≤ hi) = b) (w : World) : Calls Tryz.prog 44 #[.int .i64 n, .int .i64 lo, .int .i64 hi] w (RetS (.bool b) w) := by
  subst hb; exact impl_within n lo hi w
/-- the first places of a row -/
theorem Strs.take {w : World} {lo hi : Nat} {b off : Nat} {c j : Nat} {l : List ByteArray} (h : Strs w lo hi (.slice (some ⟨b, off, none⟩) l.length c) l) (hj : j ≤ l.length) : Strs w lo hi (.slice (some ⟨b, off, none⟩) j c) (l.take j) := by
  obtain ⟨hm, A', c', e, hc, hr⟩ := h
  injection e with e1 e2 e3
  subst e3
  have hlen : (l.take j).length = j := by rw [List.length_take]; omega
  unfold Strs
  rw [hlen]
  refine ⟨by omega, some ⟨b, off, none⟩, c, rfl, by omega, fun h0 => ?_⟩
  obtain ⟨b', off', hA, h1, h2, h3⟩ := hr (by omega)
  rw [← e1] at hA
  injection hA with hA
  injection hA with hA hO
  subst hA hO
  refine ⟨b, off, rfl, h1, h2, fun i hi => ?_⟩
  rw [h3 i (by omega)]
  unfold strCell strAt
  rw [List.getD_eq_getElem?_getD, List.getD_eq_getElem?_getD, List.getElem?_take, if_pos (by omega)]
theorem dup_iff {l : List ByteArray} {j : Nat} (hj : j ≤ l.length) : 0 ≤ fstIx (fun i => strAt (l.take j) i = strAt l j) (l.take j).length ↔ ¬ ∀ k, k < j → strAt l k ≠ strAt l j := by
  have hlen : (l.take j).length = j := by rw [List.length_take]; omega
  rw [hlen]
  have hc : fstIx (fun i => strAt (l.take j) i = strAt l j) j = fstIx (fun i => strAt l i = strAt l j) j := fstIx_congr j (fun i hi => by
    have e : strAt (l.take j) i = strAt l i := by
      unfold strAt
      rw [List.getD_eq_getElem?_getD, List.getD_eq_getElem?_getD, List.getElem?_take, if_pos hi]
    rw [e])
  rw [hc]
  rcases fstIx_cases (fun i => strAt l i = strAt l j) j with ⟨h1, h2⟩ | ⟨k, h1, h2, h3, h4⟩
  · rw [h1]
    exact ⟨fun h => by omega, fun h => absurd (fun k hk => h2 k hk) h⟩
  · rw [h2]
    exact ⟨fun _ h => h k h1 h3, fun _ => by omega⟩

set_option maxHeartbeats 400000 in
theorem indexFunc_ways (v : Value) (l : List Wy) (g : Nat) (caps : Array Value) (p : Nat → Prop) (w : World) (h : Wys w 0 w.heap.size v l)
    (hg : ∀ (args : Array Value) (w : World), (callFunc g args).run Tryz.prog w = .ok (.enter g args) w)
    (hf : ∀ (i : Nat) (w' : World), i < l.length → Ext w w' → Calls Tryz.prog g (#[.agg #[.int .i64 (wyAt l i).a, .int .i64 (wyAt l i).b, .int .i64 (wyAt l i).d]] ++ caps) w' (RetX (.bool (B (p i))) w')) :
    Calls Tryz.prog 204 #[v, .func (.func g) #[] caps] w (RetIdx l.length p w) := by
  obtain ⟨A, c, rfl, hn, hc⟩ := h.len
  have H := Lib.hid h
  have Hf := Lib.hid hf
  clear h hf
  go_enter Tryz.func204, Tryz.ntmps204
  go_wp2_with fail
  go_loopg [8] l.length (fun k i wr => ∃ j : Nat, j + k = l.length ∧ i = .int .i64 j ∧ Ext w wr ∧ ∀ i, i < j → ¬ p i)
  case atStart => exact ⟨0, by omega, rfl, Ext.refl _, fun i hi => absurd hi (by omega)⟩
  case round =>
    obtain ⟨j, hj, rfl, hx, hok⟩ := hrel
    have Hok := Lib.hid hok
    clear hok
    by_cases hlt : j < l.length
    · obtain ⟨b, off, rfl, _, hb, h1, h2, h3⟩ := (H.out.ext hx (Nat.le_refl _)).at_ hlt
      go_wp2_with fail
      refine (Hf.out j wr hlt hx).mono ?_
      rintro e w1 ⟨rfl, hx1⟩
      go_wp2_with fail
      · go_ret
        exact ⟨j, rfl, (by repeat (first | exact Ext.refl _ | assumption | refine Ext.alloc ?_ _ | refine Ext.drew ?_ | refine Ext.drewN ?_ _ | refine Ext.setCell ?_ (by first | (simp; done) | (simp; omega) | omega) _ | refine Ext.trans ?_ (by assumption))), .inr ⟨by omega, j, hlt, B_iff.1 (by assumption)⟩⟩
      · go_roundg (l.length - (j + 1))
        case measure => omega
        case rel =>
          refine ⟨j + 1, by omega, by go_num, (by repeat (first | exact Ext.refl _ | assumption | refine Ext.alloc ?_ _ | refine Ext.drew ?_ | refine Ext.drewN ?_ _ | refine Ext.setCell ?_ (by first | (simp; done) | (simp; omega) | omega) _ | refine Ext.trans ?_ (by assumption))), fun i hi => ?_⟩
          by_cases e : i = j
          · rw [e]
            exact B_not.1 (by first | assumption | (simp only [← Bool.not_eq_true]; assumption))
          · exact Hok.out i (by omega)
    · obtain rfl : j = l.length := by omega
      go_wp2_with fail
      go_ret
      exact ⟨-1, rfl, (by repeat (first | exact Ext.refl _ | assumption | refine Ext.alloc ?_ _ | refine Ext.drew ?_ | refine Ext.drewN ?_ _ | refine Ext.setCell ?_ (by first | (simp; done) | (simp; omega) | omega) _ | refine Ext.trans ?_ (by assumption))), .inl ⟨rfl, Hok.out⟩⟩

set_option maxHeartbeats 400000 in
theorem containsFunc_ways (v : Value) (l : List Wy) (g : Nat) (caps : Array Value) (p : Nat → Prop) (w : World) (h : Wys w 0 w.heap.size v l)
    (hg : ∀ (args : Array Value) (w : World), (callFunc g args).run Tryz.prog w = .ok (.enter g args) w)
    (hf : ∀ (i : Nat) (w' : World), i < l.length → Ext w w' → Calls Tryz.prog g (#[.agg #[.int .i64 (wyAt l i).a, .int .i64 (wyAt l i).b, .int .i64 (wyAt l i).d]] ++ caps) w' (RetX (.bool (B (p i))) w')) :
    Calls Tryz.prog 174 #[v, .func (.func g) #[] caps] w (RetX (.bool (B (Some_ l.length p))) w) := by
  have H := Lib.hid (indexFunc_ways v l g caps p w h hg hf)
  clear h hf hg
  go_enter Tryz.func174, Tryz.ntmps174
  go_wp2_with fail
  refine H.out.mono ?_
  rintro e w1 ⟨r, rfl, hx, hr⟩
  have Hr := Lib.hid hr
  clear hr
  go_wp2_with fail
  go_ret
  refine ⟨ret_bool (B_eq ?_), (by repeat (first | exact Ext.refl _ | assumption | refine Ext.alloc ?_ _ | refine Ext.drew ?_ | refine Ext.drewN ?_ _ | refine Ext.setCell ?_ (by first | (simp; done) | (simp; omega) | omega) _ | refine Ext.trans ?_ (by assumption)))⟩
  simp only [decide_eq_true_eq]
  constructor
  · intro h
    rcases Hr.out with ⟨h1, _⟩ | ⟨_, h2⟩
    · omega
    · exact h2
  · rintro ⟨i, h1, h2⟩
    rcases Hr.out with ⟨_, h3⟩ | ⟨h3, _⟩
    · exact absurd h2 (h3 i h1)
    · omega
set_option maxHeartbeats 1000000 in
theorem impl_isPlace (A : Option Addr) (n c : Nat) (u : Value) (x : Int) (w : World) (hn : n ≤ 9223372036854775807) : Calls Tryz.prog 176 #[.agg #[.slice A n c, u], .int .i64 x] w (RetX (.bool (B (0 ≤ x ∧ x ≤ (n : Int) - 1))) w) := by
  have W1 : IntKind.i64.wrap ((n : Int) - 1) = (n : Int) - 1 := IntWalk.i64_in _ (by omega)
  go_enter Tryz.func176, Tryz.ntmps176
  go_wp2_with fail
  refine Calls.mono (impl_within x 0 ((n : Int) - 1) _) ?_
  rintro e w1 ⟨rfl, rfl⟩
  go_wp2_with fail
  go_ret
  exact ⟨rfl, (by repeat (first | exact Ext.refl _ | assumption | refine Ext.alloc ?_ _ | refine Ext.drew ?_ | refine Ext.drewN ?_ _ | refine Ext.setCell ?_ (by first | (simp; done) | (simp; omega) | omega) _ | refine Ext.trans ?_ (by assumption)))⟩
theorem impl_isPlace_b {x : Int} {n : Nat} {b : Bool} (hb : B (0 ≤ x ∧ x ≤ (n : Int) - 1) = b) (A : Option Addr) (c : Nat) (u : Value) (w : World) (hn : n ≤ 9223372036854775807) : Calls Tryz.prog 176 #[.agg #[.slice A n c, u], .int .i64 x] w (RetX (.bool b) w) := by
  subst hb; exact impl_isPlace A n c u x w hn
set_option maxRecDepth 100000 in
set_option maxHeartbeats 4000000 in
theorem impl_IsLand_1 (x : Wy) (g : Nat) (A : Option Addr) (n c : Nat) (u : Value) (w : World) (hn : n ≤ 9223372036854775807) (hg : g < w.heap.size) (hc0 : w.cell? ⟨g, 0, none⟩ = some (.slice A n c)) (hc1 : w.cell? ⟨g, 1, none⟩ = some u) :
    Calls Tryz.prog 175 #[.agg #[.int .i64 x.a, .int .i64 x.b, .int .i64 x.d], .pointer (some ⟨g, 0, none⟩)] w (RetX (.bool (B (¬ WyOk n x))) w) := by
  obtain ⟨q1, eq1⟩ : ∃ b, B (0 ≤ x.a ∧ x.a ≤ (n : Int) - 1) = b := ⟨_, rfl⟩
  have Hq1 := Lib.hid eq1
  clear eq1
  obtain ⟨q2, eq2⟩ : ∃ b, B (0 ≤ x.b ∧ x.b ≤ (n : Int) - 1) = b := ⟨_, rfl⟩
  have Hq2 := Lib.hid eq2
  clear eq2
  obtain ⟨q3, eq3⟩ : ∃ b, B (1 ≤ x.d ∧ x.d ≤ 60) = b := ⟨_, rfl⟩
  have Hq3 := Lib.hid eq3
  clear eq3
  have hg1 : g < w.heap.size + 1 := by omega
  have Hg := Lib.hid (And.intro hg (And.intro hc0 hc1))
  go_enter Tryz.func175, Tryz.ntmps175
  go_wp2_with fail
  refine Calls.mono (impl_isPlace_b Hq1.out _ _ _ _ hn) ?_
  rintro e w1 ⟨rfl, hx1⟩
  have bx := (Boxed.new w [.int .i64 x.a, .int .i64 x.b, .int .i64 x.d] 225).ext hx1; have bx0 := bx.at0; have bx1 := bx.at1; have bx2 := bx.at2; have bxg := bx.1; have Hbx := Lib.hid bx; clear bx
  have hxw1 : Ext w w1 := (by repeat (first | exact Ext.refl _ | assumption | refine Ext.alloc ?_ _ | refine Ext.drew ?_ | refine Ext.drewN ?_ _ | refine Ext.setCell ?_ (by first | (simp; done) | (simp; omega) | omega) _ | refine Ext.trans ?_ (by assumption)))
  obtain ⟨g1, g2, g3⟩ := Hg.out
  have m0 := (hxw1.cell (p := ⟨g, 0, none⟩) g1).trans g2
  have m1 := (hxw1.cell (p := ⟨g, 1, none⟩) g1).trans g3
  clear hc0 hc1 g1 g2 g3 hg hg1
  cases q1 with
  | false =>
    go_wp2_with fail
    go_ret
    exact ⟨ret_bool (B_true (fun h => absurd (h.1) (B_not.1 Hq1.out))).symm, (by repeat (first | exact Ext.refl _ | assumption | refine Ext.alloc ?_ _ | refine Ext.drew ?_ | refine Ext.drewN ?_ _ | refine Ext.setCell ?_ (by first | (simp; done) | (simp; omega) | omega) _ | refine Ext.trans ?_ (by assumption)))⟩
  | true =>
    go_wp2_with fail
    refine Calls.mono (impl_isPlace_b Hq2.out _ _ _ _ hn) ?_
    rintro e w2 ⟨rfl, hx2⟩
    clear bx0 bx1 bx2 bxg
    have bx := Hbx.out.ext hx2
    have bx0 := bx.at0
    have bx1 := bx.at1
    have bx2 := bx.at2
    have bxg := bx.1
    clear bx
    cases q2 with
    | false =>
      go_wp2_with fail
      go_ret
      exact ⟨ret_bool (B_true (fun h => absurd (h.2.1) (B_not.1 Hq2.out))).symm, (by repeat (first | exact Ext.refl _ | assumption | refine Ext.alloc ?_ _ | refine Ext.drew ?_ | refine Ext.drewN ?_ _ | refine Ext.setCell ?_ (by first | (simp; done) | (simp; omega) | omega) _ | refine Ext.trans ?_ (by assumption)))⟩
    | true =>
      by_cases h4 : x.a = x.b
      case pos =>
        have d4 : decide (x.a = x.b) = true := decide_eq_true h4
        have d5 : (x.a == x.b) = true := by simpa using h4
        have H4 := Lib.hid h4
        clear h4
        go_wp2_with fail
        go_ret
        exact ⟨ret_bool (B_true (fun h => h.2.2.1 H4.out)).symm, (by repeat (first | exact Ext.refl _ | assumption | refine Ext.alloc ?_ _ | refine Ext.drew ?_ | refine Ext.drewN ?_ _ | refine Ext.setCell ?_ (by first | (simp; done) | (simp; omega) | omega) _ | refine Ext.trans ?_ (by assumption)))⟩
      have d4 : decide (x.a = x.b) = false := decide_eq_false h4
      have d5 : (x.a == x.b) = false := by simpa using h4
      have H4 := Lib.hid h4
      clear h4
      go_wp2_with fail
      refine Calls.mono (impl_within_k Hq3.out _) ?_
      rintro e w3 ⟨rfl, rfl⟩
      cases q3 with
      | false =>
        go_wp2_with fail
        go_ret
        exact ⟨ret_bool (B_true (fun h => absurd (h.2.2.2) (B_not.1 Hq3.out))).symm, (by repeat (first | exact Ext.refl _ | assumption | refine Ext.alloc ?_ _ | refine Ext.drew ?_ | refine Ext.drewN ?_ _ | refine Ext.setCell ?_ (by first | (simp; done) | (simp; omega) | omega) _ | refine Ext.trans ?_ (by assumption)))⟩
      | true =>
        go_wp2_with fail
        go_ret
        exact ⟨ret_bool (B_false (fun h => h ⟨B_iff.1 Hq1.out, B_iff.1 Hq2.out, H4.out, B_iff.1 Hq3.out⟩)).symm, (by repeat (first | exact Ext.refl _ | assumption | refine Ext.alloc ?_ _ | refine Ext.drew ?_ | refine Ext.drewN ?_ _ | refine Ext.setCell ?_ (by first | (simp; done) | (simp; omega) | omega) _ | refine Ext.trans ?_ (by assumption)))⟩
set_option maxRecDepth 100000 in
set_option maxHeartbeats 16000000 in
theorem impl_IsLand (v u : Value) (L : Lnd) (w : World) (hp : Strs w 0 w.heap.size v L.pl) (ht : Wys w 0 w.heap.size u L.wy) : Calls Tryz.prog 120 #[.agg #[v, u]] w (RetX (.bool (B (LndOk L))) w) := by
  obtain ⟨Ap, cp, rfl, hnp, hcp⟩ := hp.len
  obtain ⟨At, ct, rfl, hnt, hct⟩ := ht.len
  have Hp := Lib.hid hp
  have Ht := Lib.hid ht
  clear hp ht
  have Hb := Lib.hid (Boxed.new w [.slice Ap L.pl.length cp, .slice At L.wy.length ct] 69)
  by_cases hl1 : 1 ≤ L.pl.length
  case neg =>
    have d1 : decide ((L.pl.length : Int) < 1) = true := decide_eq_true (by omega)
    go_enter Tryz.func120, Tryz.ntmps120
    go_wp2_with fail
    go_ret
    exact ⟨ret_bool (B_false (fun h => by have := h.1.1; omega)).symm, (by repeat (first | exact Ext.refl _ | assumption | refine Ext.alloc ?_ _ | refine Ext.drew ?_ | refine Ext.drewN ?_ _ | refine Ext.setCell ?_ (by first | (simp; done) | (simp; omega) | omega) _ | refine Ext.trans ?_ (by assumption)))⟩
  have d1 : decide ((L.pl.length : Int) < 1) = false := decide_eq_false (by omega)
  by_cases hl2 : L.pl.length ≤ 12
  case neg =>
    have d2 : decide ((12 : Int) < (L.pl.length : Int)) = true := decide_eq_true (by omega)
    go_enter Tryz.func120, Tryz.ntmps120
    go_wp2_with fail
    go_ret
    exact ⟨ret_bool (B_false (fun h => by have := h.1.2; omega)).symm, (by repeat (first | exact Ext.refl _ | assumption | refine Ext.alloc ?_ _ | refine Ext.drew ?_ | refine Ext.drewN ?_ _ | refine Ext.setCell ?_ (by first | (simp; done) | (simp; omega) | omega) _ | refine Ext.trans ?_ (by assumption)))⟩
  have d2 : decide ((12 : Int) < (L.pl.length : Int)) = false := decide_eq_false (by omega)
  by_cases hl3 : L.wy.length ≤ 40
  case neg =>
    have d3 : decide ((40 : Int) < (L.wy.length : Int)) = true := decide_eq_true (by omega)
    go_enter Tryz.func120, Tryz.ntmps120
    go_wp2_with fail
    go_ret
    exact ⟨ret_bool (B_false (fun h => by have := h.2.1; omega)).symm, (by repeat (first | exact Ext.refl _ | assumption | refine Ext.alloc ?_ _ | refine Ext.drew ?_ | refine Ext.drewN ?_ _ | refine Ext.setCell ?_ (by first | (simp; done) | (simp; omega) | omega) _ | refine Ext.trans ?_ (by assumption)))⟩
  have d3 : decide ((40 : Int) < (L.wy.length : Int)) = false := decide_eq_false (by omega)
  go_enter Tryz.func120, Tryz.ntmps120
  go_wp2_with fail
  go_loopg [3, 4, 24] L.pl.length (fun q u3 u4 i wr => ∃ j : Nat, j + q = L.pl.length ∧ i = .int .i64 j ∧ Ext (w.alloc (.cells #[.slice Ap L.pl.length cp, .slice At L.wy.length ct] 69)) wr ∧ ∀ i, i < j → PlStep L.pl i)
  case atStart => exact ⟨0, by omega, rfl, (by repeat (first | exact Ext.refl _ | assumption | refine Ext.alloc ?_ _ | refine Ext.drew ?_ | refine Ext.drewN ?_ _ | refine Ext.setCell ?_ (by first | (simp; done) | (simp; omega) | omega) _ | refine Ext.trans ?_ (by assumption))), fun i hi => absurd hi (by omega)⟩
  case round =>
    obtain ⟨j, hj, rfl, hx0, hok⟩ := hrel
    have Hok := Lib.hid hok
    clear hok
    have hx : Ext w wr := (by repeat (first | exact Ext.refl _ | assumption | refine Ext.alloc ?_ _ | refine Ext.drew ?_ | refine Ext.drewN ?_ _ | refine Ext.setCell ?_ (by first | (simp; done) | (simp; omega) | omega) _ | refine Ext.trans ?_ (by assumption)))
    have bx := Hb.out.ext hx0; have bx0 := bx.at0; have bx1 := bx.at1; have bxg := bx.1; have Hbx := Lib.hid bx; clear bx
    have hj0 : (0 : Int) ≤ (j : Int) := by omega
    by_cases hlt : j < L.pl.length
    · obtain ⟨b, off, eA, _, hb, h1⟩ := (Hp.out.ext hx (Nat.le_refl _)).at_ hlt
      have Hrow := Lib.hid (Hp.out.ext hx (Nat.le_refl _))
      subst eA
      have Htk := Lib.hid (Strs.take Hrow.out (Nat.le_of_lt hlt))
      clear Hrow
      have hbr : b < wr.heap.size := Nat.lt_of_lt_of_le hb hx.size
      have hji : (j : Int) < (L.pl.length : Int) := by omega
      have hjl : (j : Int) ≤ (L.pl.length : Int) := by omega
      have hjc : (j : Int) ≤ (cp : Int) := by omega
      have hjc2 : j ≤ cp := by omega
      obtain ⟨q1, eq1⟩ : ∃ b, B (NameOk (strAt L.pl j) 12) = b := ⟨_, rfl⟩
      have Hq1 := Lib.hid eq1
      clear eq1
      obtain ⟨r, er⟩ : ∃ r, fstIx (fun i => strAt (L.pl.take j) i = strAt L.pl j) (L.pl.take j).length = r := ⟨_, rfl⟩
      have Hdup := Lib.hid (dup_iff (l := L.pl) (j := j) (Nat.le_of_lt hlt))
      rw [er] at Hdup
      have Hr := Lib.hid er
      clear er
      have Hct := Lib.hid (fun W (hX : Ext wr W) => show Calls Tryz.prog 173 #[.slice (some ⟨b, off, none⟩) j cp, .string (strAt L.pl j)] W (RetX (.bool (B (0 ≤ r))) W) from by rw [← Hr.out]; exact slices_Contains_strs _ (L.pl.take j) (strAt L.pl j) W ((Htk.out.mono (Nat.le_refl _) hx.size).up hX))
      go_wp2_with fail
      refine Calls.mono (impl_isSmall_b Hq1.out _ (by decide)) ?_
      rintro e w1 ⟨rfl, hx1⟩
      have hxr : Ext wr w1 := (by repeat (first | exact Ext.refl _ | assumption | refine Ext.alloc ?_ _ | refine Ext.drew ?_ | refine Ext.drewN ?_ _ | refine Ext.setCell ?_ (by first | (simp; done) | (simp; omega) | omega) _ | refine Ext.trans ?_ (by assumption)))
      clear bx0 bx1 bxg
      have bx := Hbx.out.ext hxr
      have bx0 := bx.at0
      have bx1 := bx.at1
      have bxg := bx.1
      clear bx
      cases q1 with
      | false =>
        go_wp2_with fail
        go_ret
        exact ⟨ret_bool (B_false (fun h => B_not.1 Hq1.out (h.2.2.1 j hlt).1)).symm, (by repeat (first | exact Ext.refl _ | assumption | refine Ext.alloc ?_ _ | refine Ext.drew ?_ | refine Ext.drewN ?_ _ | refine Ext.setCell ?_ (by first | (simp; done) | (simp; omega) | omega) _ | refine Ext.trans ?_ (by assumption)))⟩
      | true =>
        go_wp2_with fail
        refine Calls.mono (Hct.out _ (by repeat (first | exact Ext.refl _ | assumption | refine Ext.alloc ?_ _ | refine Ext.drew ?_ | refine Ext.drewN ?_ _ | refine Ext.setCell ?_ (by first | (simp; done) | (simp; omega) | omega) _ | refine Ext.trans ?_ (by assumption)))) ?_
        rintro e w2 ⟨rfl, hx2⟩
        by_cases hr : 0 ≤ r
        case pos =>
          rw [B_true hr]
          go_wp2_with fail
          go_ret
          exact ⟨ret_bool (B_false (fun h => (Hdup.out.1 hr) (h.2.2.1 j hlt).2)).symm, (by repeat (first | exact Ext.refl _ | assumption | refine Ext.alloc ?_ _ | refine Ext.drew ?_ | refine Ext.drewN ?_ _ | refine Ext.setCell ?_ (by first | (simp; done) | (simp; omega) | omega) _ | refine Ext.trans ?_ (by assumption)))⟩
        rw [B_false hr]
        go_wp2_with fail
        go_roundg (L.pl.length - (j + 1))
        case measure => omega
        case rel => exact ⟨j + 1, by omega, by go_num, (by repeat (first | exact Ext.refl _ | assumption | refine Ext.alloc ?_ _ | refine Ext.drew ?_ | refine Ext.drewN ?_ _ | refine Ext.setCell ?_ (by first | (simp; done) | (simp; omega) | omega) _ | refine Ext.trans ?_ (by assumption))), pl_step Hok.out ⟨B_iff.1 Hq1.out, Classical.byContradiction fun hn => by have := Hdup.out.2 hn; omega⟩⟩
    · obtain rfl : j = L.pl.length := by omega
      have hji : ¬ (L.pl.length : Int) < (L.pl.length : Int) := by omega
      have Hpl := Lib.hid (show ∀ i, i < L.pl.length → PlStep L.pl i from Hok.out)
      clear hlt
      go_wp2_with fail
      refine Calls.mono (containsFunc_ways _ L.wy 175 #[.pointer (some ⟨w.heap.size, 0, none⟩)] (fun i => ¬ WyOk L.pl.length (wyAt L.wy i)) wr (Ht.out.up hx) Tryz.call175 (fun i w' _ hxx => impl_IsLand_1 (wyAt L.wy i) _ _ _ _ _ w' hnp (Hbx.out.ext hxx).1 (Hbx.out.ext hxx).at0 (Hbx.out.ext hxx).at1)) ?_
      rintro e w2 ⟨rfl, hx2⟩
      go_wp2_with fail
      go_ret
      refine ⟨ret_bool (B_eq ?_), (by repeat (first | exact Ext.refl _ | assumption | refine Ext.alloc ?_ _ | refine Ext.drew ?_ | refine Ext.drewN ?_ _ | refine Ext.setCell ?_ (by first | (simp; done) | (simp; omega) | omega) _ | refine Ext.trans ?_ (by assumption)))⟩
      rw [Bool.not_eq_true', B_not]
      exact ⟨fun h => ⟨⟨hl1, hl2⟩, hl3, Hpl.out, fun i hi => Classical.byContradiction fun hn => h ⟨i, hi, hn⟩⟩, fun h ⟨i, hi, hn⟩ => hn (h.2.2.2 i hi)⟩
end Go.Proofs.YtbddkmlfjghllaaGreatDoor
