/- How many choices there are where sets may be given up. Plain Lean. -/
import Derived.Test.YtfociflfeednfaaFs
namespace Go.Proofs.Ytfociflfeednfaa
set_option linter.unusedVariables false
set_option linter.unusedSimpArgs false

def blP : List (List Sp) → Nat
  | [] => 1
  | s :: r => max 1 s.length * blP r
theorem blP_snoc : ∀ (l : List (List Sp)) (s : List Sp), blP (l ++ [s]) = blP l * max 1 s.length
  | [], s => by simp [blP]
  | t :: r, s => by
    show max 1 t.length * blP (r ++ [s]) = max 1 t.length * blP r * max 1 s.length
    rw [blP_snoc r s, Nat.mul_assoc]
def blTo (l : List (List Sp)) : Nat → Int
  | 0 => 1
  | k + 1 => min 257 (blTo l k * max 1 ((setAt l k).length : Int))
theorem blTo_bd (l : List (List Sp)) : ∀ k, 1 ≤ blTo l k ∧ blTo l k ≤ 257
  | 0 => by simp [blTo]
  | k + 1 => by
    have ih := blTo_bd l k
    have h1 : (1 : Int) ≤ max 1 ((setAt l k).length : Int) := Int.le_max_left _ _
    have h2 : 1 * 1 ≤ blTo l k * max 1 ((setAt l k).length : Int) := Int.mul_le_mul ih.1 h1 (by omega) (by omega)
    show 1 ≤ min 257 (blTo l k * max 1 ((setAt l k).length : Int)) ∧ min 257 (blTo l k * max 1 ((setAt l k).length : Int)) ≤ 257
    generalize blTo l k * max 1 ((setAt l k).length : Int) = q at *
    omega
theorem blTo_zero {l : List (List Sp)} {k : Nat} (h : (setAt l k).length = 0) : blTo l (k + 1) = blTo l k := by
  have ih := blTo_bd l k
  show min 257 (blTo l k * max 1 ((setAt l k).length : Int)) = _
  have e : max (1 : Int) ((0 : Nat) : Int) = 1 := by decide
  rw [h, e, Int.mul_one]
  omega
theorem blTo_pos {l : List (List Sp)} {k : Nat} (h : (setAt l k).length ≠ 0) : blTo l (k + 1) = min 257 (blTo l k * ((setAt l k).length : Int)) := by
  show min 257 (blTo l k * max 1 ((setAt l k).length : Int)) = _
  rw [Int.max_eq_right (by omega)]
theorem blTo_exact {l : List (List Sp)} : ∀ i, i ≤ l.length → blTo l i = min 257 (blP (l.take i) : Int)
  | 0, _ => by show (1 : Int) = min 257 1; decide
  | i + 1, hi => by
    have ih := blTo_exact (l := l) i (by omega)
    have e : l.take (i + 1) = l.take i ++ [setAt l i] := by
      rw [List.take_succ_eq_append_getElem (by omega)]
      unfold setAt
      rw [List.getD_eq_getElem?_getD, List.getElem?_eq_getElem (by omega)]
      rfl
    rw [e, blP_snoc]
    show min 257 (blTo l i * max 1 ((setAt l i).length : Int)) = _
    rw [ih]
    have h3 : (1 : Int) ≤ max 1 ((setAt l i).length : Int) := Int.le_max_left _ _
    have h6 : ((max 1 (setAt l i).length : Nat) : Int) = max 1 ((setAt l i).length : Int) := by omega
    rw [Int.natCast_mul, h6]
    generalize max 1 ((setAt l i).length : Int) = z at *
    generalize blP (l.take i) = q at *
    rcases Int.le_total 257 (q : Int) with hq | hq
    · rw [Int.min_eq_left hq]
      have h4 : (257 : Int) * 1 ≤ 257 * z := Int.mul_le_mul_of_nonneg_left h3 (by omega)
      have h5 : (257 : Int) * z ≤ (q : Int) * z := Int.mul_le_mul_of_nonneg_right hq (by omega)
      rw [Int.min_eq_left (by omega), Int.min_eq_left (by omega)]
    · rw [Int.min_eq_right hq]
def blN (n : Net) : Int := blTo n.sets n.sets.length
theorem blN_exact (n : Net) : blN n = min 257 (blP n.sets : Int) := by
  unfold blN
  rw [blTo_exact _ (Nat.le_refl _), List.take_length]
theorem prodN_le : ∀ {a b : List (List Sp)}, a.length = b.length → (∀ i, i < b.length → (setAt a i).length ≤ max 1 (setAt b i).length) → prodN a ≤ blP b
  | [], [], _, _ => Nat.le_refl _
  | s :: r, t :: q, hl, h => by
    have h0 : s.length ≤ max 1 t.length := h 0 (by simp)
    have h1 := prodN_le (a := r) (b := q) (by simpa using hl) (fun i hi => h (i + 1) (by simp; omega))
    show s.length * prodN r ≤ max 1 t.length * blP q
    exact Nat.mul_le_mul h0 h1
  | [], _ :: _, hl, _ => by simp at hl
  | _ :: _, [], hl, _ => by simp at hl
theorem choN_small {l : List (List Sp)} (h : prodN l ≤ 4096) : choN 4096 l = (prodN l : Int) := by
  refine choN_exact (m := 4096) ?_
  by_cases h0 : ∃ i, i < l.length ∧ (setAt l i).length = 0
  · obtain ⟨i, hi, e⟩ := h0
    have e2 : choN ((4096 : Nat) : Int) l = 0 := choN_zero hi e
    rw [e2]; omega
  · have h' : ∀ i, i < l.length → (setAt l i).length ≠ 0 := fun i hi e => h0 ⟨i, hi, e⟩
    rw [choN_prod h', prodTo_exact l.length (Nat.le_refl _) h', List.take_length]
    omega
/-- where not too many may be blamed, no network in which statements are given up has too many choices -/
theorem blame_few {n : Net} {is : Nat → Prop} (h : blN n ≤ 256) : prodN (giveN is n).sets ≤ 256 := by
  have h1 := blN_exact n
  have h2 : prodN (giveN is n).sets ≤ blP n.sets := by
    refine prodN_le (gvS_len _ _ _) (fun i hi => ?_)
    show (setAt (gvS is n.sets n.sets.length) i).length ≤ _
    rw [gvS_at is n.sets n.sets.length i hi]
    by_cases hp : is i
    · rw [B_true hp]; show 1 ≤ _; omega
    · rw [B_false hp]; show (setAt n.sets i).length ≤ _; omega
  omega
end Go.Proofs.Ytfociflfeednfaa
