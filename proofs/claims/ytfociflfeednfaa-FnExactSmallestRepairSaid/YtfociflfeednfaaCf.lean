/- Repairs and conflicts: what the searches find. Plain Lean. -/
import Derived.Test.YtfociflfeednfaaRq
namespace Go.Proofs.Ytfociflfeednfaa
set_option linter.unusedVariables false
set_option linter.unusedSimpArgs false

/-! ### nothing given up -/
theorem gvS_none {is : Nat → Prop} (h : ∀ i, ¬ is i) (l : List (List Sp)) : ∀ j, j ≤ l.length → gvS is l j = l.take j
  | 0, _ => rfl
  | j + 1, hj => by
    rw [gvS_no (h j), gvS_none h l j (by omega), List.take_succ_eq_append_getElem (by omega)]
    unfold setAt
    rw [List.getD_eq_getElem?_getD, List.getElem?_eq_getElem (by omega)]
    rfl
theorem gvL_none {is : Nat → Prop} (h : ∀ i, ¬ is i) (N : Nat) (l : List Lk) : ∀ j, j ≤ l.length → gvL is N l j = l.take j
  | 0, _ => rfl
  | j + 1, hj => by
    rw [gvL_no (h _), gvL_none h N l j (by omega), List.take_succ_eq_append_getElem (by omega)]
    unfold lkAt
    rw [List.getD_eq_getElem?_getD, List.getElem?_eq_getElem (by omega)]
    rfl
theorem giveN_none {is : Nat → Prop} (h : ∀ i, ¬ is i) (n : Net) : giveN is n = n := by
  unfold giveN
  rw [gvS_none h _ _ (Nat.le_refl _), gvL_none h _ _ _ (Nat.le_refl _), List.take_length, List.take_length]
theorem hasI_nil (x : Int) : ¬ HasI [] x := fun ⟨i, hi, _⟩ => by simp at hi
theorem repB_nil (n : Net) : repB n [] = B (Sol n) := by unfold repB; rw [giveN_none (fun i => hasI_nil _)]

/-! ### the first that .. -/
noncomputable def firstP (p : Nat → Prop) : Nat → Nat → Nat
  | 0, i => i
  | f + 1, i => bif B (p i) then i else firstP p f (i + 1)
theorem firstP_eq {p : Nat → Prop} : ∀ (f i j : Nat), i ≤ j → j < i + f → (∀ k, i ≤ k → k < j → ¬ p k) → p j → firstP p f i = j
  | 0, i, j, h1, h2, _, _ => by omega
  | f + 1, i, j, h1, h2, h3, h4 => by
    show (bif B (p i) then i else firstP p f (i + 1)) = j
    by_cases e : i = j
    · subst e; rw [B_true h4]; rfl
    · rw [B_false (h3 i (Nat.le_refl _) (by omega))]
      exact firstP_eq f (i + 1) j (by omega) (by omega) (fun k hk => h3 k (by omega)) h4
def allS (n : Net) : Nat := n.sets.length + n.links.length
def Rep1 (n : Net) (s : Nat) : Prop := repB n [(s : Int)] = true
def Rep2 (n : Net) (s t : Nat) : Prop := repB n [(s : Int), (t : Int)] = true
def RepP (n : Net) (s : Nat) : Prop := ∃ t, s < t ∧ t < allS n ∧ Rep2 n s t
noncomputable def smE (n : Net) : Int := bif B (blE n [] = 0) then (bif B (Sol n ∨ (∃ s, s < allS n ∧ Rep1 n s) ∨ ∃ s, s < allS n ∧ RepP n s) then 0 else 4) else blE n []
noncomputable def sm1 (n : Net) : Nat := firstP (Rep1 n) (allS n) 0
noncomputable def sm2 (n : Net) : Nat := firstP (RepP n) (allS n) 0
noncomputable def sm3 (n : Net) : Nat := firstP (fun t => sm2 n < t ∧ Rep2 n (sm2 n) t) (allS n) 0
noncomputable def smL (n : Net) : List Int := bif B (blE n [] = 0) then (bif B (Sol n) then [] else bif B (∃ s, s < allS n ∧ Rep1 n s) then [(sm1 n : Int)] else bif B (∃ s, s < allS n ∧ RepP n s) then [(sm2 n : Int), (sm3 n : Int)] else []) else []
theorem sm_code {n : Net} (h : blE n [] ≠ 0) : smE n = blE n [] ∧ smL n = [] := by unfold smE smL; rw [B_false h]; exact ⟨rfl, rfl⟩
theorem sm_sol {n : Net} (h : blE n [] = 0) (h2 : Sol n) : smE n = 0 ∧ smL n = [] := by unfold smE smL; rw [B_true h, B_true h2, B_true (.inl h2)]; exact ⟨rfl, rfl⟩
theorem sm_one {n : Net} {s : Nat} (h : blE n [] = 0) (h2 : ¬ Sol n) (hs : s < allS n) (hr : Rep1 n s) (hl : ∀ k, k < s → ¬ Rep1 n k) : smE n = 0 ∧ smL n = [(s : Int)] := by
  have e : sm1 n = s := firstP_eq (allS n) 0 s (by omega) (by omega) (fun k _ hk => hl k hk) hr
  unfold smE smL
  rw [B_true h, B_false h2, B_true (show ∃ s, s < allS n ∧ Rep1 n s from ⟨s, hs, hr⟩), B_true (.inr (.inl ⟨s, hs, hr⟩)), e]
  exact ⟨rfl, rfl⟩
theorem sm_two {n : Net} {s t : Nat} (h : blE n [] = 0) (h2 : ¬ Sol n) (h3 : ∀ k, k < allS n → ¬ Rep1 n k) (hs : s < t) (ht : t < allS n) (hr : Rep2 n s t) (hl : ∀ k, k < s → ¬ RepP n k) (hl2 : ∀ k, s < k → k < t → ¬ Rep2 n s k) :
    smE n = 0 ∧ smL n = [(s : Int), (t : Int)] := by
  have hp : RepP n s := ⟨t, hs, ht, hr⟩
  have e : sm2 n = s := firstP_eq (allS n) 0 s (by omega) (by omega) (fun k _ hk => hl k hk) hp
  have e2 : sm3 n = t := by
    unfold sm3
    rw [e]
    exact firstP_eq (allS n) 0 t (by omega) (by omega) (fun k _ hk hh => hl2 k hh.1 hk hh.2) ⟨hs, hr⟩
  have h1 : ¬ ∃ s, s < allS n ∧ Rep1 n s := fun ⟨k, hk, hh⟩ => h3 k hk hh
  unfold smE smL
  rw [B_true h, B_false h2, B_false h1, B_true (show ∃ s, s < allS n ∧ RepP n s from ⟨s, by omega, hp⟩), B_true (.inr (.inr ⟨s, by omega, hp⟩)), e, e2]
  exact ⟨rfl, rfl⟩
theorem sm_none {n : Net} (h : blE n [] = 0) (h2 : ¬ Sol n) (h3 : ∀ k, k < allS n → ¬ Rep1 n k) (h4 : ∀ k, k < allS n → ¬ RepP n k) : smE n = 4 ∧ smL n = [] := by
  have h1 : ¬ ∃ s, s < allS n ∧ Rep1 n s := fun ⟨k, hk, hh⟩ => h3 k hk hh
  have h5 : ¬ ∃ s, s < allS n ∧ RepP n s := fun ⟨k, hk, hh⟩ => h4 k hk hh
  unfold smE smL
  rw [B_true h, B_false h2, B_false h1, B_false h5, B_false (fun hh => hh.elim h2 (fun hh => hh.elim h1 h5))]
  exact ⟨rfl, rfl⟩
theorem smL_small (n : Net) : (smL n).length ≤ 1048576 := by
  unfold smL
  cases B (blE n [] = 0) <;> cases B (Sol n) <;> cases B (∃ s, s < allS n ∧ Rep1 n s) <;> cases B (∃ s, s < allS n ∧ RepP n s) <;> simp

/-! ### disputed statements -/
noncomputable def dispTo (n : Net) : Nat → List Int
  | 0 => []
  | k + 1 => bif B (Rep1 n k) then dispTo n k ++ [(k : Int)] else dispTo n k
theorem dispTo_yes {n : Net} {k : Nat} (h : Rep1 n k) : dispTo n (k + 1) = dispTo n k ++ [(k : Int)] := by show (bif B (Rep1 n k) then _ else _) = _; rw [B_true h]; rfl
theorem dispTo_no {n : Net} {k : Nat} (h : ¬ Rep1 n k) : dispTo n (k + 1) = dispTo n k := by show (bif B (Rep1 n k) then _ else _) = _; rw [B_false h]; rfl
theorem dispTo_len (n : Net) : ∀ k, (dispTo n k).length ≤ k
  | 0 => by simp [dispTo]
  | k + 1 => by
    have ih := dispTo_len n k
    by_cases h : Rep1 n k
    · rw [dispTo_yes h]; simp; omega
    · rw [dispTo_no h]; omega
noncomputable def dispL (n : Net) : List Int := bif B (blE n [] = 0) then dispTo n (allS n) else []
theorem dispL_no {n : Net} (h : blE n [] ≠ 0) : dispL n = [] := by unfold dispL; rw [B_false h]; rfl
theorem dispL_ok {n : Net} (h : blE n [] = 0) : dispL n = dispTo n (allS n) := by unfold dispL; rw [B_true h]; rfl
theorem dispL_small (n : Net) : (dispL n).length ≤ 1048576 := by
  by_cases h : blE n [] = 0
  · rw [dispL_ok h]
    have h1 := dispTo_len n (allS n)
    have h2 := (blE_zero h).1
    have h3 := h2.1
    have h4 := h2.2.1
    unfold allS at *
    omega
  · rw [dispL_no h]; exact Nat.zero_le _

/-! ### conflicts -/
def ConfP (n : Net) (l : List Int) : Prop := conB n l = true ∧ ∀ i, i < l.length → conB n (l.eraseIdx i) = false
noncomputable def confV (n : Net) (l : List Int) : Bool := bif B (blE n l = 0) then B (ConfP n l) else false
theorem confV_no {n : Net} {l : List Int} (h : blE n l ≠ 0) : confV n l = false := by unfold confV; rw [B_false h]; rfl
theorem confV_ok {n : Net} {l : List Int} (h : blE n l = 0) : confV n l = B (ConfP n l) := by unfold confV; rw [B_true h]; rfl
/-- the numbers k, k + 1, .., c of them -/
def rgI : Nat → Nat → List Int
  | _, 0 => []
  | k, c + 1 => (k : Int) :: rgI (k + 1) c
theorem rgI_len : ∀ k c, (rgI k c).length = c
  | _, 0 => rfl
  | k, c + 1 => by simp [rgI, rgI_len]
theorem rgI_snoc : ∀ k c, rgI k (c + 1) = rgI k c ++ [((k + c : Nat) : Int)]
  | k, 0 => by simp [rgI]
  | k, c + 1 => by
    show (k : Int) :: rgI (k + 1) (c + 1) = ((k : Int) :: rgI (k + 1) c) ++ _
    rw [rgI_snoc (k + 1) c]
    simp
    omega
theorem mem_rgI {x : Int} : ∀ {k c : Nat}, x ∈ rgI k c ↔ (k : Int) ≤ x ∧ x < (k : Int) + c
  | k, 0 => by simp only [rgI, List.not_mem_nil, false_iff]; omega
  | k, c + 1 => by
    rw [rgI, List.mem_cons, mem_rgI]
    omega
theorem erase_mid (a b : List Int) (x : Int) : (a ++ x :: b).eraseIdx a.length = a ++ b := by
  induction a with
  | nil => rfl
  | cons y a ih => simp [ih]
/-- what is kept when the first k statements have been tried -/
noncomputable def kept (n : Net) : Nat → List Int
  | 0 => []
  | k + 1 => bif conB n (kept n k ++ rgI (k + 1) (allS n - (k + 1))) then kept n k else kept n k ++ [(k : Int)]
theorem kept_mem (n : Net) : ∀ k x, x ∈ kept n k → 0 ≤ x ∧ x < k
  | 0, x, h => by simp [kept] at h
  | k + 1, x, h => by
    unfold kept at h
    cases hb : conB n (kept n k ++ rgI (k + 1) (allS n - (k + 1)))
    · rw [hb] at h
      rcases List.mem_append.1 h with h | h
      · have := kept_mem n k x h; omega
      · have e : x = (k : Int) := by simpa using h
        omega
    · rw [hb] at h
      have := kept_mem n k x h; omega
theorem kept_len (n : Net) : ∀ k, (kept n k).length ≤ k
  | 0 => by simp [kept]
  | k + 1 => by
    have ih := kept_len n k
    unfold kept
    cases conB n (kept n k ++ rgI (k + 1) (allS n - (k + 1)))
    · show (kept n k ++ [(k : Int)]).length ≤ _
      simp; omega
    · show (kept n k).length ≤ _
      omega
noncomputable def outL (n : Net) (k : Nat) : List Int := kept n k ++ rgI k (allS n - k)
theorem outL_at {n : Net} {k : Nat} (h : k < allS n) : outL n k = kept n k ++ (k : Int) :: rgI (k + 1) (allS n - (k + 1)) := by
  unfold outL
  rw [show allS n - k = (allS n - (k + 1)) + 1 by omega]
  rfl
theorem outL_drop {n : Net} {k : Nat} (h : k < allS n) : (outL n k).eraseIdx (kept n k).length = kept n k ++ rgI (k + 1) (allS n - (k + 1)) := by rw [outL_at h, erase_mid]
theorem outL_yes {n : Net} {k : Nat} (h : k < allS n) (hc : conB n ((outL n k).eraseIdx (kept n k).length) = true) : outL n (k + 1) = (outL n k).eraseIdx (kept n k).length ∧ kept n (k + 1) = kept n k := by
  rw [outL_drop h] at hc ⊢
  have e : kept n (k + 1) = kept n k := by
    show (bif conB n (kept n k ++ rgI (k + 1) (allS n - (k + 1))) then kept n k else kept n k ++ [(k : Int)]) = _
    rw [hc]; rfl
  unfold outL
  rw [e]
  exact ⟨rfl, rfl⟩
theorem outL_no {n : Net} {k : Nat} (h : k < allS n) (hc : conB n ((outL n k).eraseIdx (kept n k).length) = false) : outL n (k + 1) = outL n k ∧ (kept n (k + 1)).length = (kept n k).length + 1 := by
  rw [outL_drop h] at hc
  have e : kept n (k + 1) = kept n k ++ [(k : Int)] := by
    show (bif conB n (kept n k ++ rgI (k + 1) (allS n - (k + 1))) then kept n k else kept n k ++ [(k : Int)]) = _
    rw [hc]; rfl
  rw [outL_at h]
  unfold outL
  rw [e]
  exact ⟨by simp, by simp⟩
theorem outL_end (n : Net) : outL n (allS n) = kept n (allS n) := by
  unfold outL
  rw [Nat.sub_self]
  simp [rgI]
theorem outL_zero (n : Net) : outL n 0 = rgI 0 (allS n) := rfl
theorem outL_len (n : Net) (k : Nat) : (outL n k).length = (kept n k).length + (allS n - k) := by unfold outL; rw [List.length_append, rgI_len]
/-- where a statement not yet tried stands -/
theorem outL_index {n : Net} {k : Nat} (h : k < allS n) : inAt (outL n k) (kept n k).length = (k : Int) ∧ ∀ i, i < (kept n k).length → inAt (outL n k) i ≠ (k : Int) := by
  rw [outL_at h]
  constructor
  · unfold inAt
    rw [List.getD_eq_getElem?_getD, List.getElem?_append_right (Nat.le_refl _), Nat.sub_self]
    rfl
  · intro i hi e
    unfold inAt at e
    rw [List.getD_eq_getElem?_getD, List.getElem?_append_left hi, List.getElem?_eq_getElem hi] at e
    have := kept_mem n k _ (List.getElem_mem hi)
    have e2 : (kept n k)[i] = (k : Int) := e
    omega
/-- all statements contradict exactly if there is no solution -/
theorem conB_all (n : Net) : conB n (rgI 0 (allS n)) = !B (Sol n) := by
  unfold conB
  have e : giveN (fun i => ¬ HasI (rgI 0 (allS n)) i) n = n := by
    rw [giveN_congr (js := fun _ => False) (fun i hi => by
      rw [hasI_mem, mem_rgI]
      constructor
      · intro hh
        refine hh ⟨by omega, ?_⟩
        unfold allS
        omega
      · intro hh; exact hh.elim)]
    exact giveN_none (fun _ h => h) n
  rw [e]
theorem othTo_nil : ∀ k, othTo [] k = rgI 0 k
  | 0 => rfl
  | k + 1 => by rw [othTo_no (hasI_nil _), othTo_nil k, rgI_snoc]; simp
noncomputable def fcE (n : Net) : Int := bif B (blE n [] = 0) then (bif B (Sol n) then 4 else 0) else blE n []
noncomputable def fcL (n : Net) : List Int := bif B (blE n [] = 0) then (bif B (Sol n) then [] else outL n (allS n)) else []
theorem fc_code {n : Net} (h : blE n [] ≠ 0) : fcE n = blE n [] ∧ fcL n = [] := by unfold fcE fcL; rw [B_false h]; exact ⟨rfl, rfl⟩
theorem fc_sol {n : Net} (h : blE n [] = 0) (h2 : Sol n) : fcE n = 4 ∧ fcL n = [] := by unfold fcE fcL; rw [B_true h, B_true h2]; exact ⟨rfl, rfl⟩
theorem fc_ok {n : Net} (h : blE n [] = 0) (h2 : ¬ Sol n) : fcE n = 0 ∧ fcL n = outL n (allS n) := by unfold fcE fcL; rw [B_true h, B_false h2]; exact ⟨rfl, rfl⟩
theorem fcL_small (n : Net) : (fcL n).length ≤ 1048576 := by
  by_cases h : blE n [] = 0
  · by_cases h2 : Sol n
    · rw [(fc_sol h h2).2]; exact Nat.zero_le _
    · rw [(fc_ok h h2).2, outL_end]
      have h1 := kept_len n (allS n)
      have h2 := (blE_zero h).1
      have h3 := h2.1
      have h4 := h2.2.1
      unfold allS at *
      omega
  · rw [(fc_code h).2]; exact Nat.zero_le _
end Go.Proofs.Ytfociflfeednfaa
