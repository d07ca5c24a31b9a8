/- Choices of a network: in the program's order and by their numbers. Plain Lean. -/
import Derived.Test.YtfmnkojjkjkdeaaDoorBo
namespace Go.Proofs.YtfmnkojjkjkdeaaDoor
set_option linter.unusedVariables false
set_option linter.unusedSimpArgs false

def IsCh : List (List Sp) → List Sp → Prop
  | [], [] => True
  | s :: r, x :: c => x ∈ s ∧ IsCh r c
  | _, _ => False
theorem IsCh.len : ∀ {l : List (List Sp)} {c : List Sp}, IsCh l c → c.length = l.length
  | [], [], _ => rfl
  | _ :: _, _ :: _, h => by simp [IsCh.len h.2]
  | [], _ :: _, h => absurd h (by simp [IsCh])
  | _ :: _, [], h => absurd h (by simp [IsCh])
theorem IsCh.mem : ∀ {l : List (List Sp)} {c : List Sp}, IsCh l c → ∀ i, i < c.length → spAt c i ∈ setAt l i
  | [], [], _, i, hi => absurd hi (by simp)
  | s :: r, x :: c, h, 0, _ => h.1
  | s :: r, x :: c, h, i + 1, hi => IsCh.mem h.2 i (by simpa using hi)
  | [], _ :: _, h, _, _ => absurd h (by simp [IsCh])
  | _ :: _, [], h, _, _ => absurd h (by simp [IsCh])
theorem spAt_mem {l : List Sp} {i : Nat} (h : i < l.length) : spAt l i ∈ l := by
  unfold spAt
  rw [List.getD_eq_getElem?_getD, List.getElem?_eq_getElem h]
  exact List.getElem_mem h
theorem mem_spAt {l : List Sp} {x : Sp} (h : x ∈ l) : ∃ i, i < l.length ∧ spAt l i = x := by
  obtain ⟨i, hi, e⟩ := List.getElem_of_mem h
  refine ⟨i, hi, ?_⟩
  unfold spAt
  rw [List.getD_eq_getElem?_getD, List.getElem?_eq_getElem hi]
  exact e
/-- all spans of a network's choice are spans of days -/
theorem IsCh.ok {n : Net} {c : List Sp} (h : IsCh n.sets c) (hok : NetOk n) : SpsOk c := by
  intro i hi
  have hl := h.len
  obtain ⟨k, hk, e⟩ := mem_spAt (h.mem i hi)
  rw [← e]
  exact ((hok.2.2.1 i (by omega)).2 k hk).1

/-! ### by numbers -/
def prodN : List (List Sp) → Nat
  | [] => 1
  | s :: r => s.length * prodN r
def chN : List (List Sp) → Nat → List Sp
  | [], _ => []
  | s :: r, k => spAt s (k % s.length) :: chN r (k / s.length)
def nuTo (l : List (List Sp)) (k : Nat) : Nat → Nat
  | 0 => k
  | i + 1 => nuTo l k i / (setAt l i).length
theorem chN_len : ∀ (l : List (List Sp)) (k : Nat), (chN l k).length = l.length
  | [], _ => rfl
  | s :: r, k => by simp [chN, chN_len r]
theorem nuTo_cons (s : List Sp) (r : List (List Sp)) (k : Nat) : ∀ i, nuTo (s :: r) k (i + 1) = nuTo r (k / s.length) i
  | 0 => rfl
  | i + 1 => by
    show nuTo (s :: r) k (i + 1) / (setAt (s :: r) (i + 1)).length = nuTo r (k / s.length) i / (setAt r i).length
    rw [nuTo_cons s r k i]
    rfl
theorem chN_at : ∀ (l : List (List Sp)) (k i : Nat), i < l.length → spAt (chN l k) i = spAt (setAt l i) (nuTo l k i % (setAt l i).length)
  | [], _, _, h => absurd h (by simp)
  | s :: r, k, 0, _ => rfl
  | s :: r, k, i + 1, h => by
    rw [nuTo_cons]
    exact chN_at r (k / s.length) i (by simpa using h)
theorem nuTo_le (l : List (List Sp)) (k : Nat) : ∀ i, nuTo l k i ≤ k
  | 0 => Nat.le_refl _
  | i + 1 => Nat.le_trans (Nat.div_le_self _ _) (nuTo_le l k i)
theorem chN_isCh : ∀ (l : List (List Sp)) (k : Nat), k < prodN l → IsCh l (chN l k)
  | [], _, _ => trivial
  | s :: r, k, h => by
    have h0 : 0 < s.length := by
      rcases Nat.eq_zero_or_pos s.length with e | e
      · unfold prodN at h; rw [e] at h; simp at h
      · exact e
    refine ⟨spAt_mem (Nat.mod_lt _ h0), chN_isCh r _ ?_⟩
    unfold prodN at h
    exact Nat.div_lt_of_lt_mul h
theorem isCh_chN : ∀ {l : List (List Sp)} {c : List Sp}, IsCh l c → ∃ k, k < prodN l ∧ chN l k = c
  | [], [], _ => ⟨0, by simp [prodN], rfl⟩
  | s :: r, x :: c, h => by
    obtain ⟨i, hi, e⟩ := mem_spAt h.1
    obtain ⟨k, hk, e2⟩ := isCh_chN h.2
    refine ⟨i + s.length * k, ?_, ?_⟩
    · unfold prodN
      have : s.length * (k + 1) ≤ s.length * prodN r := Nat.mul_le_mul_left _ hk
      rw [Nat.mul_succ] at this
      omega
    · unfold chN
      rw [Nat.add_mul_mod_self_left, Nat.mod_eq_of_lt hi, e, Nat.add_mul_div_left _ _ (by omega), Nat.div_eq_of_lt hi, Nat.zero_add, e2]
  | [], _ :: _, h => absurd h (by simp [IsCh])
  | _ :: _, [], h => absurd h (by simp [IsCh])
theorem prodN_pos : ∀ {l : List (List Sp)}, (∀ i, i < l.length → (setAt l i).length ≠ 0) → 0 < prodN l
  | [], _ => by simp [prodN]
  | s :: r, h => by
    have h0 : s.length ≠ 0 := h 0 (by simp)
    have h1 := prodN_pos (l := r) (fun i hi => h (i + 1) (by simp; omega))
    unfold prodN
    exact Nat.mul_pos (by omega) h1
theorem prodN_zero : ∀ {l : List (List Sp)} {i : Nat}, i < l.length → (setAt l i).length = 0 → prodN l = 0
  | [], _, h, _ => absurd h (by simp)
  | s :: r, 0, _, h => by
    have h0 : s.length = 0 := h
    unfold prodN
    rw [h0, Nat.zero_mul]
  | s :: r, i + 1, hi, h => by
    unfold prodN
    rw [prodN_zero (l := r) (i := i) (by simpa using hi) h, Nat.mul_zero]
/-- the product of the first i -/
theorem prodN_snoc : ∀ (l : List (List Sp)) (s : List Sp), prodN (l ++ [s]) = prodN l * s.length
  | [], s => by simp [prodN]
  | t :: r, s => by
    show t.length * prodN (r ++ [s]) = t.length * prodN r * s.length
    rw [prodN_snoc r s, Nat.mul_assoc]
theorem prodTo_exact {m : Nat} {l : List (List Sp)} : ∀ i, i ≤ l.length → (∀ i, i < l.length → (setAt l i).length ≠ 0) → prodTo m l i = min ((m : Int) + 1) (prodN (l.take i) : Int)
  | 0, _, _ => by simp [prodTo, prodN]; omega
  | i + 1, hi, h => by
    have ih := prodTo_exact (m := m) i (by omega) h
    have e : l.take (i + 1) = l.take i ++ [setAt l i] := by
      rw [List.take_succ_eq_append_getElem (by omega)]
      unfold setAt
      rw [List.getD_eq_getElem?_getD, List.getElem?_eq_getElem (by omega)]
      rfl
    rw [e, prodN_snoc]
    simp only [prodTo]
    rw [ih]
    have h0 := h i (by omega)
    have h3 : 1 ≤ ((setAt l i).length : Int) := by omega
    generalize prodN (l.take i) = q at *
    generalize (setAt l i).length = z at *
    push_cast
    rcases Int.le_total ((m : Int) + 1) (q : Int) with hq | hq
    · rw [Int.min_eq_left hq]
      have h4 : ((m : Int) + 1) * 1 ≤ ((m : Int) + 1) * z := Int.mul_le_mul_of_nonneg_left h3 (by omega)
      have h5 : ((m : Int) + 1) * z ≤ (q : Int) * z := Int.mul_le_mul_of_nonneg_right hq (by omega)
      rw [Int.min_eq_left (by omega), Int.min_eq_left (by omega)]
    · rw [Int.min_eq_right hq]
theorem choN_exact {m : Nat} {l : List (List Sp)} (h : choN m l ≤ m) : choN m l = (prodN l : Int) := by
  by_cases h0 : ∃ i, i < l.length ∧ (setAt l i).length = 0
  · obtain ⟨i, hi, e⟩ := h0
    rw [choN_zero hi e, prodN_zero hi e]
    rfl
  · have h' : ∀ i, i < l.length → (setAt l i).length ≠ 0 := fun i hi e => h0 ⟨i, hi, e⟩
    rw [choN_prod h'] at h ⊢
    rw [prodTo_exact l.length (Nat.le_refl _) h', List.take_length] at h ⊢
    omega

/-! ### in the program's order -/
def allCh : List (List Sp) → List Sp → List (List Sp)
  | [], pre => [pre]
  | s :: r, pre => s.flatMap (fun x => allCh r (pre ++ [x]))
theorem mem_allCh : ∀ {l : List (List Sp)} {pre c : List Sp}, c ∈ allCh l pre ↔ ∃ t, IsCh l t ∧ c = pre ++ t
  | [], pre, c => by
    constructor
    · intro h
      exact ⟨[], trivial, by simpa [allCh] using h⟩
    · rintro ⟨t, h1, h2⟩
      have : t = [] := List.eq_nil_of_length_eq_zero h1.len
      subst this
      simpa [allCh] using h2
  | s :: r, pre, c => by
    unfold allCh
    rw [List.mem_flatMap]
    constructor
    · rintro ⟨x, hx, h⟩
      obtain ⟨t, h1, h2⟩ := mem_allCh.1 h
      exact ⟨x :: t, ⟨hx, h1⟩, by rw [h2]; simp⟩
    · rintro ⟨t, h1, h2⟩
      match t, h1 with
      | x :: t, h1 => exact ⟨x, h1.1, mem_allCh.2 ⟨t, h1.2, by rw [h2]; simp⟩⟩

/-- the network has a solution: a choice of it has one -/
def Sol (n : Net) : Prop := ∃ ch, IsCh n.sets ch ∧ ChOk n.links ch
theorem sol_num (n : Net) : Sol n ↔ ∃ k, k < prodN n.sets ∧ ChOk n.links (chN n.sets k) := by
  constructor
  · rintro ⟨ch, h1, h2⟩
    obtain ⟨k, hk, e⟩ := isCh_chN h1
    exact ⟨k, hk, by rw [e]; exact h2⟩
  · rintro ⟨k, hk, h⟩
    exact ⟨_, chN_isCh _ _ hk, h⟩
theorem sol_all (n : Net) : Sol n ↔ ∃ ch, ch ∈ allCh n.sets [] ∧ ChOk n.links ch := by
  constructor
  · rintro ⟨ch, h1, h2⟩
    exact ⟨ch, mem_allCh.2 ⟨ch, h1, rfl⟩, h2⟩
  · rintro ⟨ch, h1, h2⟩
    obtain ⟨t, h3, e⟩ := mem_allCh.1 h1
    have : ch = t := e
    subst this
    exact ⟨ch, h3, h2⟩
end Go.Proofs.YtfmnkojjkjkdeaaDoor
