/- Texts merged: a claim holds at most sixty files. -/
import Derived.Test.YtfajmlkiidnhlaaZ18
import Derived.Test.YtfajmlkiidnhlaaZ20
import Derived.Test.YtfajmlkiidnhlaaZ17
import Derived.Test.YtfajmlkiidnhlaaZ30
import Derived.Test.YtfajmlkiidnhlaaZ22
import Derived.Deep.RegionLaw
/- How many choices there are where sets may be given up. Plain Lean. -/
namespace Go.Proofs.Ytfajmlkiidnhlaa
set_option linter.unusedVariables false
set_option linter.unusedSimpArgs false

def blP : List (List Sp) → Nat
  | [] => 1
  | s :: r => max 1 s.length * blP r
theorem blP_snoc : ∀ (l : List (List Sp)) (s : List Sp), blP (l ++ [s]) = blP l * max 1 s.length
  | [], s => by simp [blP]
  | t :: r, s => by
    show max 1 t.length * blP (r ++ [s]) = max 1 t.length * blP r * max 1 s.length
    rw [blP_snoc r s, Nat.mul_assoc]
def blTo (l : List (List Sp)) : Nat → Int
  | 0 => 1
  | k + 1 => min 257 (blTo l k * max 1 ((setAt l k).length : Int))
theorem blTo_bd (l : List (List Sp)) : ∀ k, 1 ≤ blTo l k ∧ blTo l k ≤ 257
  | 0 => by simp [blTo]
  | k + 1 => by
    have ih := blTo_bd l k
    have h1 : (1 : Int) ≤ max 1 ((setAt l k).length : Int) := Int.le_max_left _ _
    have h2 : 1 * 1 ≤ blTo l k * max 1 ((setAt l k).length : Int) := Int.mul_le_mul ih.1 h1 (by omega) (by omega)
    show 1 ≤ min 257 (blTo l k * max 1 ((setAt l k).length : Int)) ∧ min 257 (blTo l k * max 1 ((setAt l k).length : Int)) ≤ 257
    generalize blTo l k * max 1 ((setAt l k).length : Int) = q at *
    omega
theorem blTo_zero {l : List (List Sp)} {k : Nat} (h : (setAt l k).length = 0) : blTo l (k + 1) = blTo l k := by
  have ih := blTo_bd l k
  show min 257 (blTo l k * max 1 ((setAt l k).length : Int)) = _
  have e : max (1 : Int) ((0 : Nat) : Int) = 1 := by decide
  rw [h, e, Int.mul_one]
  omega
theorem blTo_pos {l : List (List Sp)} {k : Nat} (h : (setAt l k).length ≠ 0) : blTo l (k + 1) = min 257 (blTo l k * ((setAt l k).length : Int)) := by
  show min 257 (blTo l k * max 1 ((setAt l k).length : Int)) = _
  rw [Int.max_eq_right (by omega)]
theorem blTo_exact {l : List (List Sp)} : ∀ i, i ≤ l.length → blTo l i = min 257 (blP (l.take i) : Int)
  | 0, _ => by show (1 : Int) = min 257 1; decide
  | i + 1, hi => by
    have ih := blTo_exact (l := l) i (by omega)
    have e : l.take (i + 1) = l.take i ++ [setAt l i] := by
      rw [List.take_succ_eq_append_getElem (by omega)]
      unfold setAt
      rw [List.getD_eq_getElem?_getD, List.getElem?_eq_getElem (by omega)]
      rfl
    rw [e, blP_snoc]
    show min 257 (blTo l i * max 1 ((setAt l i).length : Int)) = _
    rw [ih]
    have h3 : (1 : Int) ≤ max 1 ((setAt l i).length : Int) := Int.le_max_left _ _
    have h6 : ((max 1 (setAt l i).length : Nat) : Int) = max 1 ((setAt l i).length : Int) := by omega
    rw [Int.natCast_mul, h6]
    generalize max 1 ((setAt l i).length : Int) = z at *
    generalize blP (l.take i) = q at *
    rcases Int.le_total 257 (q : Int) with hq | hq
    · rw [Int.min_eq_left hq]
      have h4 : (257 : Int) * 1 ≤ 257 * z := Int.mul_le_mul_of_nonneg_left h3 (by omega)
      have h5 : (257 : Int) * z ≤ (q : Int) * z := Int.mul_le_mul_of_nonneg_right hq (by omega)
      rw [Int.min_eq_left (by omega), Int.min_eq_left (by omega)]
    · rw [Int.min_eq_right hq]
def blN (n : Net) : Int := blTo n.sets n.sets.length
theorem blN_exact (n : Net) : blN n = min 257 (blP n.sets : Int) := by
  unfold blN
  rw [blTo_exact _ (Nat.le_refl _), List.take_length]
theorem prodN_le : ∀ {a b : List (List Sp)}, a.length = b.length → (∀ i, i < b.length → (setAt a i).length ≤ max 1 (setAt b i).length) → prodN a ≤ blP b
  | [], [], _, _ => Nat.le_refl _
  | s :: r, t :: q, hl, h => by
    have h0 : s.length ≤ max 1 t.length := h 0 (by simp)
    have h1 := prodN_le (a := r) (b := q) (by simpa using hl) (fun i hi => h (i + 1) (by simp; omega))
    show s.length * prodN r ≤ max 1 t.length * blP q
    exact Nat.mul_le_mul h0 h1
  | [], _ :: _, hl, _ => by simp at hl
  | _ :: _, [], hl, _ => by simp at hl
theorem choN_small {l : List (List Sp)} (h : prodN l ≤ 4096) : choN 4096 l = (prodN l : Int) := by
  refine choN_exact (m := 4096) ?_
  by_cases h0 : ∃ i, i < l.length ∧ (setAt l i).length = 0
  · obtain ⟨i, hi, e⟩ := h0
    have e2 : choN ((4096 : Nat) : Int) l = 0 := choN_zero hi e
    rw [e2]; omega
  · have h' : ∀ i, i < l.length → (setAt l i).length ≠ 0 := fun i hi e => h0 ⟨i, hi, e⟩
    rw [choN_prod h', prodTo_exact l.length (Nat.le_refl _) h', List.take_length]
    omega
/-- where not too many may be blamed, no network in which statements are given up has too many choices -/
theorem blame_few {n : Net} {is : Nat → Prop} (h : blN n ≤ 256) : prodN (giveN is n).sets ≤ 256 := by
  have h1 := blN_exact n
  have h2 : prodN (giveN is n).sets ≤ blP n.sets := by
    refine prodN_le (gvS_len _ _ _) (fun i hi => ?_)
    show (setAt (gvS is n.sets n.sets.length) i).length ≤ _
    rw [gvS_at is n.sets n.sets.length i hi]
    by_cases hp : is i
    · rw [B_true hp]; show 1 ≤ _; omega
    · rw [B_false hp]; show (setAt n.sets i).length ≤ _; omega
  omega
end Go.Proofs.Ytfajmlkiidnhlaa

/- Contracts: the reference's l20Has. -/
namespace Go.Proofs.Ytfajmlkiidnhlaa
set_option linter.unusedVariables false
set_option linter.unusedSimpArgs false
open Go.RowKit
attribute [local go_sem] cell_onto

def NoSol (n : Net) (m : Nat) : Prop := ∀ i, i < m → ¬ ChOk n.links (chN n.sets i)
theorem NoSol.step {n : Net} {m : Nat} (h : NoSol n m) (h2 : ¬ ChOk n.links (chN n.sets m)) : NoSol n (m + 1) := by
  intro i hi
  by_cases e : i = m
  · subst e; exact h2
  · exact h i (by omega)
theorem NoSol.end_ {n : Net} (h : NoSol n (prodN n.sets)) : ¬ Sol n := fun hs => by
  obtain ⟨k, hk, h2⟩ := (sol_num n).1 hs
  exact h k hk h2
theorem Spans.of_owned {w : World} {b T : Nat} {v : Value} {l : List Sp} (h : w.ownsRow b T 2 v l.length (cellsOf (l.length * 2) (spanCell l))) : Spans w 0 w.heap.size v l := by
  obtain ⟨g, _, ho⟩ := Own.of_owned h
  exact ho.row (fun h0 => ⟨Nat.zero_le _, ho.lt h0⟩)
set_option maxHeartbeats 4000000 in
theorem spec_l20Has (s k : Value) (n : Net) (w : World) (h : NetIn w s k n) (hfit : NetFit n) (hfew : prodN n.sets ≤ 4096) : Calls Try.prog 117 #[.agg #[s, k]] w (RetX (.bool (B (Sol n))) w) := by
  have H := Lib.hid h
  have Hfit := Lib.hid hfit
  have Hc := Lib.hid (choN_small hfew)
  clear h hfit
  go_enter Try.func117, Try.ntmps117
  have nb := Boxed.new w [s, k] 27; have nb0 := nb.at0; have nb1 := nb.at1; have nbg := nb.1; have Hnb := Lib.hid nb; clear nb
  go_wp2_with fail
  go_loopg [3, 4, 5, 6] (prodN n.sets) (fun q i u4 u5 u6 wr => ∃ j : Nat, j + q = prodN n.sets ∧ i = .int .i64 j ∧ Ext w wr ∧ Boxed wr w.heap.size [s, k] ∧ Hid (NoSol n j))
  case atStart => exact ⟨0, by omega, rfl, (by repeat (first | exact Ext.refl _ | assumption | refine Ext.alloc ?_ _ | refine Ext.drew ?_ | refine Ext.drewN ?_ _ | refine Ext.setCell ?_ (by first | (simp; done) | (simp; omega) | omega) _ | refine Ext.trans ?_ (by assumption))), Hnb.out.ext (by repeat (first | exact Ext.refl _ | assumption | refine Ext.alloc ?_ _ | refine Ext.drew ?_ | refine Ext.drewN ?_ _ | refine Ext.setCell ?_ (by first | (simp; done) | (simp; omega) | omega) _ | refine Ext.trans ?_ (by assumption))), Lib.hid (fun i hi => absurd hi (by omega))⟩
  clear nb0 nb1 nbg Hnb
  case round =>
    obtain ⟨j, hj, rfl, hx, hnb, Hno⟩ := hrel
    have nb := hnb; have nb0 := nb.at0; have nb1 := nb.at1; have nbg := nb.1; have Hnb := Lib.hid nb; clear nb
    clear hnb
    go_wp2_with fail
    refine Calls.mono (spec_l20Count s k n wr (H.out.up hx) Hfit.out.fit) ?_
    rintro e w2 ⟨rfl, hx2⟩
    rw [Hc.out]
    have mb := Hnb.out.ext hx2; have mb0 := mb.at0; have mb1 := mb.at1; have mbg := mb.1; have Hmb := Lib.hid mb; clear mb
    have hxw2 : Ext w w2 := hx.trans hx2
    have Hn2 : Hid (Boxed w2 w.heap.size [s, k]) := Lib.hid Hmb.out
    clear nb0 nb1 nbg Hnb hx hx2
    by_cases hlt : j < prodN n.sets
    · have T1 : decide ((j : Int) < (prodN n.sets : Int)) = true := decide_eq_true (by omega)
      have Hch := Lib.hid (Hfit.out.ch (chN_isCh n.sets j hlt))
      have h8 := Hfit.out.s8
      have h21 := Hfit.out.k21
      go_wp2_with fail
      go_region_law (first
        | (go_simp; go_at_call 114; refine Calls.mono (spec_l20Choice s k n j _ (H.out.up (by repeat (first | exact Ext.refl _ | assumption | refine Ext.alloc ?_ _ | refine Ext.drew ?_ | refine Ext.drewN ?_ _ | refine Ext.setCell ?_ (by first | (simp; done) | (simp; omega) | omega) _ | refine Ext.trans ?_ (by assumption)))) hlt (by omega) h8 Hfit.out.fit) ?_; rintro e wc ⟨uv, rfl, hxc, huc⟩; have Huc := Lib.hid (Spans.of_owned huc); have hxwc : Ext w2 wc := (by repeat (first | exact Ext.refl _ | assumption | refine Ext.alloc ?_ _ | refine Ext.drew ?_ | refine Ext.drewN ?_ _ | refine Ext.setCell ?_ (by first | (simp; done) | (simp; omega) | omega) _ | refine Ext.trans ?_ (by assumption))); have cb := Hn2.out.ext hxwc; have cb0 := cb.at0; have cb1 := cb.at1; have cbg := cb.1; have Hcb := Lib.hid cb; clear cb; clear huc)
        | (go_simp; go_at_call 113; refine Calls.mono (spec_l20Bounds s k uv n (chN n.sets j) _ (H.out.up (by repeat (first | exact Ext.refl _ | assumption | refine Ext.alloc ?_ _ | refine Ext.drew ?_ | refine Ext.drewN ?_ _ | refine Ext.setCell ?_ (by first | (simp; done) | (simp; omega) | omega) _ | refine Ext.trans ?_ (by assumption)))) (Huc.out.up (by repeat (first | exact Ext.refl _ | assumption | refine Ext.alloc ?_ _ | refine Ext.drew ?_ | refine Ext.drewN ?_ _ | refine Ext.setCell ?_ (by first | (simp; done) | (simp; omega) | omega) _ | refine Ext.trans ?_ (by assumption)))) Hch.out.2.1 h21 Hch.out.2.2.1 Hch.out.2.2.2) ?_; rintro e w3 ⟨v1, v2, rfl, hxb, hbb⟩; clear hbb))
      all_goals
        by_cases hok : ChOk n.links (chN n.sets j)
        · have Hok := Lib.hid hok
          rw [B_true hok]
          clear hok
          go_wp2_with fail
          go_ret
          exact ⟨ret_bool (B_true ((sol_num n).2 ⟨j, hlt, Hok.out⟩)).symm, (by repeat (first | exact Ext.refl _ | assumption | refine Ext.alloc ?_ _ | refine Ext.drew ?_ | refine Ext.drewN ?_ _ | refine Ext.setCell ?_ (by first | (simp; done) | (simp; omega) | omega) _ | refine Ext.trans ?_ (by assumption)))⟩
        · have Hok := Lib.hid hok
          rw [B_false hok]
          clear hok
          have Hbx := Lib.hid ((Hn2.out.ext (show Ext w2 w3 from (by repeat (first | exact Ext.refl _ | assumption | refine Ext.alloc ?_ _ | refine Ext.drew ?_ | refine Ext.drewN ?_ _ | refine Ext.setCell ?_ (by first | (simp; done) | (simp; omega) | omega) _ | refine Ext.trans ?_ (by assumption))))))
          have hxw3 : Ext w w3 := (by repeat (first | exact Ext.refl _ | assumption | refine Ext.alloc ?_ _ | refine Ext.drew ?_ | refine Ext.drewN ?_ _ | refine Ext.setCell ?_ (by first | (simp; done) | (simp; omega) | omega) _ | refine Ext.trans ?_ (by assumption)))
          go_wp2_with fail
          go_roundg (prodN n.sets - (j + 1))
          case measure => omega
          case rel => exact ⟨j + 1, by omega, by go_num, (by repeat (first | exact Ext.refl _ | assumption | refine Ext.alloc ?_ _ | refine Ext.drew ?_ | refine Ext.drewN ?_ _ | refine Ext.setCell ?_ (by first | (simp; done) | (simp; omega) | omega) _ | refine Ext.trans ?_ (by assumption))), Hbx.out.ext (by repeat (first | exact Ext.refl _ | assumption | refine Ext.alloc ?_ _ | refine Ext.drew ?_ | refine Ext.drewN ?_ _ | refine Ext.setCell ?_ (by first | (simp; done) | (simp; omega) | omega) _ | refine Ext.trans ?_ (by assumption))), Lib.hid (Hno.out.step Hok.out)⟩
    · obtain rfl : j = prodN n.sets := by omega
      have T1 : decide (((prodN n.sets : Nat) : Int) < (prodN n.sets : Int)) = false := decide_eq_false (by omega)
      go_wp2_with fail
      go_ret
      exact ⟨ret_bool (B_false Hno.out.end_).symm, (by repeat (first | exact Ext.refl _ | assumption | refine Ext.alloc ?_ _ | refine Ext.drew ?_ | refine Ext.drewN ?_ _ | refine Ext.setCell ?_ (by first | (simp; done) | (simp; omega) | omega) _ | refine Ext.trans ?_ (by assumption)))⟩
end Go.Proofs.Ytfajmlkiidnhlaa
