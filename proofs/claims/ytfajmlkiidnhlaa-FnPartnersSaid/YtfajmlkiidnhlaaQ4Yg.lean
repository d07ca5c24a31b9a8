/- Plain: what the law on partners asks. -/
import Derived.Test.YtfajmlkiidnhlaaQ4Zs
import Derived.Test.YtfajmlkiidnhlaaQ4Nx
import Derived.Test.YtfajmlkiidnhlaaQ4W
import Derived.Test.YtfajmlkiidnhlaaQ4K
import Derived.Test.YtfajmlkiidnhlaaQ4Yf
import Derived.Test.YtfajmlkiidnhlaaQ4Yb
namespace Go.Proofs.Ytfajmlkiidnhlaa
set_option linter.unusedVariables false
set_option linter.unusedSimpArgs false

theorem inAt_snoc (l : List Int) (x : Int) {i : Nat} (hi : i < l.length + 1) : inAt (l ++ [x]) i = if i = l.length then x else inAt l i := by
  unfold inAt
  rw [List.getD_eq_getElem?_getD, List.getD_eq_getElem?_getD]
  by_cases h2 : i = l.length
  · subst h2; simp
  · rw [if_neg h2, List.getElem?_append_left (by omega)]
theorem notTo_at {p : Nat → Prop} : ∀ k i, i < (notTo p k).length → ∃ j : Nat, inAt (notTo p k) i = (j : Int) ∧ j < k ∧ ¬ p j
  | 0, i, hi => by simp [notTo] at hi
  | k + 1, i, hi => by
    by_cases h : p k
    · rw [notTo_yes h] at hi ⊢
      obtain ⟨j, h1, h2, h3⟩ := notTo_at k i hi
      exact ⟨j, h1, by omega, h3⟩
    · rw [notTo_no h] at hi ⊢
      rw [List.length_append] at hi
      have hi' : i < (notTo p k).length + 1 := hi
      rw [inAt_snoc _ _ hi']
      by_cases e : i = (notTo p k).length
      · rw [if_pos e]
        exact ⟨k, rfl, by omega, h⟩
      · rw [if_neg e]
        obtain ⟨j, h1, h2, h3⟩ := notTo_at (p := p) k i (by have : [(k : Int)].length = 1 := rfl; omega)
        exact ⟨j, h1, by omega, h3⟩
theorem netE_zero {b : Net} (h : netE b = 0) : NetOk b := Classical.byContradiction (fun hh => by rw [netE_no hh] at h; omega)
theorem empty_at {b : Net} (h : netE b = 0) {i : Nat} (hi : i < (emptyV b).length) : ∃ j : Nat, inAt (emptyV b) i = (j : Int) ∧ j < b.sets.length ∧ (setAt b.sets j).length = 0 := by
  rw [emptyV_ok (netE_zero h)] at hi ⊢
  obtain ⟨j, h1, h2, h3⟩ := notTo_at _ i hi
  exact ⟨j, h1, h2, Classical.byContradiction (fun hh => h3 hh)⟩
theorem empty_len {b : Net} (h : netE b = 0) : (emptyV b).length ≤ 8 := by
  rw [emptyV_ok (netE_zero h)]
  exact Nat.le_trans (notTo_len _ _) (netE_zero h).1
/-- a link that has been narrowed -/
theorem nl_law {a : Net} {k : Int} (h : nlE a k = 0) : ∃ j : Nat, k = (j : Int) ∧ j < (nlV a k).links.length ∧ LkOk (lkAt (nlV a k).links j) (nlV a k).sets.length ∧ NetOk (nlV a k) ∧
    ∀ o, pdE (nlV a k) (j : Int) o = 0 ∧ pdL (nlV a k) (j : Int) o = setAt (nlV a k).sets (ownI o (lkAt (nlV a k).links j)) := by
  have hl : lnkE a k = 0 := Classical.byContradiction (fun hh => by rw [(nl_no hh).2] at h; exact hh h)
  obtain ⟨h1, h2, h3⟩ := lnk_zero hl
  have hk := nl_lk hl
  obtain ⟨e1, e2⟩ := nl_ok hl
  rw [e2] at h
  have hL : Lim (narL a (lkAt a.links k.toNat)) := Classical.byContradiction (fun hh => by rw [(lim_no hh).1] at h; omega)
  rw [(lim_yes hL).2] at e1
  obtain ⟨d1, d2⟩ := narL_ok h1.d hk
  obtain ⟨j, rfl⟩ := Int.eq_ofNat_of_zero_le h2
  rw [Int.toNat_natCast] at *
  rw [e1]
  have hok := (netOk_iff d1).2 hL
  have hlk : (narL a (lkAt a.links j)).links = a.links := d2.lk
  have hk' : LkOk (lkAt (narL a (lkAt a.links j)).links j) (narL a (lkAt a.links j)).sets.length := by rw [hlk, d2.ns]; exact hk
  refine ⟨j, rfl, by rw [hlk]; omega, hk', hok, fun o => ?_⟩
  have hp := narL_part h1.d hk o
  have hle : lnkE (narL a (lkAt a.links j)) (j : Int) = 0 := lnk_ok hok ⟨by omega, by rw [hlk]; omega⟩
  have hpl : partN (narL a (lkAt a.links j)) (lkAt (narL a (lkAt a.links j)).links (j : Int).toNat) o = setAt (narL a (lkAt a.links j)).sets (ownI o (lkAt (narL a (lkAt a.links j)).links j)) := by
    rw [Int.toNat_natCast, hlk]
    exact hp
  have hlen : (partN (narL a (lkAt a.links j)) (lkAt (narL a (lkAt a.links j)).links (j : Int).toNat) o).length ≤ 300 := by
    rw [hpl]
    exact (hok.2.2.1 _ (ownI_lt o hk')).1
  obtain ⟨q1, q2⟩ := pd_ok hle hlen
  exact ⟨q1, q2.trans hpl⟩
/-- partners of a day -/
theorem pd_in {n : Net} {i : Int} {o : Bool} (h : pdE n i o = 0) : ∃ j : Nat, i = (j : Int) ∧ j < n.links.length ∧ NetOk n ∧ LkOk (lkAt n.links j) n.sets.length ∧ pdL n (j : Int) o = partN n (lkAt n.links j) o ∧ (partN n (lkAt n.links j) o).length ≤ 300 := by
  have hl : lnkE n i = 0 := Classical.byContradiction (fun hh => by rw [(pd_no hh).1] at h; exact hh h)
  obtain ⟨h1, h2, h3⟩ := lnk_zero hl
  obtain ⟨j, rfl⟩ := Int.eq_ofNat_of_zero_le h2
  have hlen : (partN n (lkAt n.links (j : Int).toNat) o).length ≤ 300 := Classical.byContradiction (fun hh => by rw [(pd_big hl hh).1] at h; omega)
  have hk := nl_lk hl
  rw [Int.toNat_natCast] at hk hlen
  exact ⟨j, rfl, by omega, h1, hk, by have := (pd_ok hl (o := o) (by rw [Int.toNat_natCast]; exact hlen)).2; rw [Int.toNat_natCast] at this; exact this, hlen⟩
theorem pd_law {n : Net} {j : Nat} {o : Bool} {d : Int} (hj : j < n.links.length) (hok : NetOk n) (hk : LkOk (lkAt n.links j) n.sets.length) (hpl : pdL n (j : Int) o = partN n (lkAt n.links j) o) (hlen : (partN n (lkAt n.links j) o).length ≤ 300)
    (hd : HasDay (setAt n.sets (ownI o (lkAt n.links j))) d) :
    fixE n (ownI o (lkAt n.links j) : Nat) d = 0 ∧ hdE (pdL n (j : Int) o) d = 0 ∧ pdE (fixV n (ownI o (lkAt n.links j) : Nat) d) (j : Int) (!o) = 0 ∧
      hdV (pdL n (j : Int) o) d = decide (0 < ((pdL (fixV n (ownI o (lkAt n.links j) : Nat) d) (j : Int) (!o)).length : Int)) := by
  have hlt := ownI_lt o hk
  have hday : DayOk d := (hok.2.2.1 _ hlt).d.day hd
  obtain ⟨f1, f2⟩ := fix_ok (v := (ownI o (lkAt n.links j) : Nat)) hok ⟨by omega, by omega⟩ hday (by rw [Int.toNat_natCast]; exact hd)
  rw [Int.toNat_natCast] at f1
  have hput : fixV n (ownI o (lkAt n.links j) : Nat) d = putDay n (ownI o (lkAt n.links j)) d := f1
  obtain ⟨p1, p2⟩ := part_fix hok hk hd
  have hpo := putDay_ok hok (v := ownI o (lkAt n.links j)) hday
  have hle : lnkE (putDay n (ownI o (lkAt n.links j)) d) (j : Int) = 0 := lnk_ok hpo ⟨by omega, by show (j : Int) ≤ (n.links.length : Int) - 1; omega⟩
  have hq := pd_ok hle (o := !o) (by rw [Int.toNat_natCast]; exact p1)
  rw [Int.toNat_natCast] at hq
  have hS : SetOk (pdL n (j : Int) o) := by rw [hpl]; exact (partN_d o hok.d hk).1.ok hlen
  refine ⟨f2, by unfold hdE; rw [B_true hS, B_true hday]; rfl, by rw [hput]; exact hq.1, ?_⟩
  have e1 : hdV (pdL n (j : Int) o) d = B (HasDay (pdL n (j : Int) o) d) := by unfold hdV; rw [B_true hS, B_true hday]; rfl
  rw [e1, hput, hq.2, hpl]
  rw [Bool.eq_iff_iff, B_iff, decide_eq_true_eq, p2]
  show _ ↔ (0 : Int) < ((partN (putDay n (ownI o (lkAt n.links j)) d) (lkAt n.links j) (!o)).length : Int)
  omega
end Go.Proofs.Ytfajmlkiidnhlaa
