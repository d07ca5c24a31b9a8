/- Texts merged (a claim holds at most sixty files): Cf, Zt, Yi, Di. -/
import Derived.Test.YtfajmlkiidnhlaaGreatQ3Hb
import Derived.Test.YtfajmlkiidnhlaaGreatQ3Zs
import Derived.Test.YtfajmlkiidnhlaaGreatQ3K
/- Repairs and conflicts: what the searches find. Plain Lean. -/
namespace Go.Proofs.YtfajmlkiidnhlaaGreat
set_option linter.unusedVariables false
set_option linter.unusedSimpArgs false

/-! ### nothing given up -/
theorem gvS_none {is : Nat → Prop} (h : ∀ i, ¬ is i) (l : List (List Sp)) : ∀ j, j ≤ l.length → gvS is l j = l.take j
  | 0, _ => rfl
  | j + 1, hj => by
    rw [gvS_no (h j), gvS_none h l j (by omega), List.take_succ_eq_append_getElem (by omega)]
    unfold setAt
    rw [List.getD_eq_getElem?_getD, List.getElem?_eq_getElem (by omega)]
    rfl
theorem gvL_none {is : Nat → Prop} (h : ∀ i, ¬ is i) (N : Nat) (l : List Lk) : ∀ j, j ≤ l.length → gvL is N l j = l.take j
  | 0, _ => rfl
  | j + 1, hj => by
    rw [gvL_no (h _), gvL_none h N l j (by omega), List.take_succ_eq_append_getElem (by omega)]
    unfold lkAt
    rw [List.getD_eq_getElem?_getD, List.getElem?_eq_getElem (by omega)]
    rfl
theorem giveN_none {is : Nat → Prop} (h : ∀ i, ¬ is i) (n : Net) : giveN is n = n := by
  unfold giveN
  rw [gvS_none h _ _ (Nat.le_refl _), gvL_none h _ _ _ (Nat.le_refl _), List.take_length, List.take_length]
theorem hasI_nil (x : Int) : ¬ HasI [] x := fun ⟨i, hi, _⟩ => by simp at hi
theorem repB_nil (n : Net) : repB n [] = B (Sol n) := by unfold repB; rw [giveN_none (fun i => hasI_nil _)]

/-! ### the first that .. -/
noncomputable def firstP (p : Nat → Prop) : Nat → Nat → Nat
  | 0, i => i
  | f + 1, i => bif B (p i) then i else firstP p f (i + 1)
theorem firstP_eq {p : Nat → Prop} : ∀ (f i j : Nat), i ≤ j → j < i + f → (∀ k, i ≤ k → k < j → ¬ p k) → p j → firstP p f i = j
  | 0, i, j, h1, h2, _, _ => by omega
  | f + 1, i, j, h1, h2, h3, h4 => by
    show (bif B (p i) then i else firstP p f (i + 1)) = j
    by_cases e : i = j
    · subst e; rw [B_true h4]; rfl
    · rw [B_false (h3 i (Nat.le_refl _) (by omega))]
      exact firstP_eq f (i + 1) j (by omega) (by omega) (fun k hk => h3 k (by omega)) h4
def allS (n : Net) : Nat := n.sets.length + n.links.length
def Rep1 (n : Net) (s : Nat) : Prop := repB n [(s : Int)] = true
def Rep2 (n : Net) (s t : Nat) : Prop := repB n [(s : Int), (t : Int)] = true
def RepP (n : Net) (s : Nat) : Prop := ∃ t, s < t ∧ t < allS n ∧ Rep2 n s t
noncomputable def smE (n : Net) : Int := bif B (blE n [] = 0) then (bif B (Sol n ∨ (∃ s, s < allS n ∧ Rep1 n s) ∨ ∃ s, s < allS n ∧ RepP n s) then 0 else 4) else blE n []
noncomputable def sm1 (n : Net) : Nat := firstP (Rep1 n) (allS n) 0
noncomputable def sm2 (n : Net) : Nat := firstP (RepP n) (allS n) 0
noncomputable def sm3 (n : Net) : Nat := firstP (fun t => sm2 n < t ∧ Rep2 n (sm2 n) t) (allS n) 0
noncomputable def smL (n : Net) : List Int := bif B (blE n [] = 0) then (bif B (Sol n) then [] else bif B (∃ s, s < allS n ∧ Rep1 n s) then [(sm1 n : Int)] else bif B (∃ s, s < allS n ∧ RepP n s) then [(sm2 n : Int), (sm3 n : Int)] else []) else []
theorem sm_code {n : Net} (h : blE n [] ≠ 0) : smE n = blE n [] ∧ smL n = [] := by unfold smE smL; rw [B_false h]; exact ⟨rfl, rfl⟩
theorem sm_sol {n : Net} (h : blE n [] = 0) (h2 : Sol n) : smE n = 0 ∧ smL n = [] := by unfold smE smL; rw [B_true h, B_true h2, B_true (.inl h2)]; exact ⟨rfl, rfl⟩
theorem sm_one {n : Net} {s : Nat} (h : blE n [] = 0) (h2 : ¬ Sol n) (hs : s < allS n) (hr : Rep1 n s) (hl : ∀ k, k < s → ¬ Rep1 n k) : smE n = 0 ∧ smL n = [(s : Int)] := by
  have e : sm1 n = s := firstP_eq (allS n) 0 s (by omega) (by omega) (fun k _ hk => hl k hk) hr
  unfold smE smL
  rw [B_true h, B_false h2, B_true (show ∃ s, s < allS n ∧ Rep1 n s from ⟨s, hs, hr⟩), B_true (.inr (.inl ⟨s, hs, hr⟩)), e]
  exact ⟨rfl, rfl⟩
theorem sm_two {n : Net} {s t : Nat} (h : blE n [] = 0) (h2 : ¬ Sol n) (h3 : ∀ k, k < allS n → ¬ Rep1 n k) (hs : s < t) (ht : t < allS n) (hr : Rep2 n s t) (hl : ∀ k, k < s → ¬ RepP n k) (hl2 : ∀ k, s < k → k < t → ¬ Rep2 n s k) :
    smE n = 0 ∧ smL n = [(s : Int), (t : Int)] := by
  have hp : RepP n s := ⟨t, hs, ht, hr⟩
  have e : sm2 n = s := firstP_eq (allS n) 0 s (by omega) (by omega) (fun k _ hk => hl k hk) hp
  have e2 : sm3 n = t := by
    unfold sm3
    rw [e]
    exact firstP_eq (allS n) 0 t (by omega) (by omega) (fun k _ hk hh => hl2 k hh.1 hk hh.2) ⟨hs, hr⟩
  have h1 : ¬ ∃ s, s < allS n ∧ Rep1 n s := fun ⟨k, hk, hh⟩ => h3 k hk hh
  unfold smE smL
  rw [B_true h, B_false h2, B_false h1, B_true (show ∃ s, s < allS n ∧ RepP n s from ⟨s, by omega, hp⟩), B_true (.inr (.inr ⟨s, by omega, hp⟩)), e, e2]
  exact ⟨rfl, rfl⟩
theorem sm_none {n : Net} (h : blE n [] = 0) (h2 : ¬ Sol n) (h3 : ∀ k, k < allS n → ¬ Rep1 n k) (h4 : ∀ k, k < allS n → ¬ RepP n k) : smE n = 4 ∧ smL n = [] := by
  have h1 : ¬ ∃ s, s < allS n ∧ Rep1 n s := fun ⟨k, hk, hh⟩ => h3 k hk hh
  have h5 : ¬ ∃ s, s < allS n ∧ RepP n s := fun ⟨k, hk, hh⟩ => h4 k hk hh
  unfold smE smL
  rw [B_true h, B_false h2, B_false h1, B_false h5, B_false (fun hh => hh.elim h2 (fun hh => hh.elim h1 h5))]
  exact ⟨rfl, rfl⟩
theorem smL_small (n : Net) : (smL n).length ≤ 1048576 := by
  unfold smL
  cases B (blE n [] = 0) <;> cases B (Sol n) <;> cases B (∃ s, s < allS n ∧ Rep1 n s) <;> cases B (∃ s, s < allS n ∧ RepP n s) <;> simp

/-! ### disputed statements -/
noncomputable def dispTo (n : Net) : Nat → List Int
  | 0 => []
  | k + 1 => bif B (Rep1 n k) then dispTo n k ++ [(k : Int)] else dispTo n k
theorem dispTo_yes {n : Net} {k : Nat} (h : Rep1 n k) : dispTo n (k + 1) = dispTo n k ++ [(k : Int)] := by show (bif B (Rep1 n k) then _ else _) = _; rw [B_true h]; rfl
theorem dispTo_no {n : Net} {k : Nat} (h : ¬ Rep1 n k) : dispTo n (k + 1) = dispTo n k := by show (bif B (Rep1 n k) then _ else _) = _; rw [B_false h]; rfl
theorem dispTo_len (n : Net) : ∀ k, (dispTo n k).length ≤ k
  | 0 => by simp [dispTo]
  | k + 1 => by
    have ih := dispTo_len n k
    by_cases h : Rep1 n k
    · rw [dispTo_yes h]; simp; omega
    · rw [dispTo_no h]; omega
noncomputable def dispL (n : Net) : List Int := bif B (blE n [] = 0) then dispTo n (allS n) else []
theorem dispL_no {n : Net} (h : blE n [] ≠ 0) : dispL n = [] := by unfold dispL; rw [B_false h]; rfl
theorem dispL_ok {n : Net} (h : blE n [] = 0) : dispL n = dispTo n (allS n) := by unfold dispL; rw [B_true h]; rfl
theorem dispL_small (n : Net) : (dispL n).length ≤ 1048576 := by
  by_cases h : blE n [] = 0
  · rw [dispL_ok h]
    have h1 := dispTo_len n (allS n)
    have h2 := (blE_zero h).1
    have h3 := h2.1
    have h4 := h2.2.1
    unfold allS at *
    omega
  · rw [dispL_no h]; exact Nat.zero_le _

/-! ### conflicts -/
def ConfP (n : Net) (l : List Int) : Prop := conB n l = true ∧ ∀ i, i < l.length → conB n (l.eraseIdx i) = false
noncomputable def confV (n : Net) (l : List Int) : Bool := bif B (blE n l = 0) then B (ConfP n l) else false
theorem confV_no {n : Net} {l : List Int} (h : blE n l ≠ 0) : confV n l = false := by unfold confV; rw [B_false h]; rfl
theorem confV_ok {n : Net} {l : List Int} (h : blE n l = 0) : confV n l = B (ConfP n l) := by unfold confV; rw [B_true h]; rfl
/-- the numbers k, k + 1, .., c of them -/
def rgI : Nat → Nat → List Int
  | _, 0 => []
  | k, c + 1 => (k : Int) :: rgI (k + 1) c
theorem rgI_len : ∀ k c, (rgI k c).length = c
  | _, 0 => rfl
  | k, c + 1 => by simp [rgI, rgI_len]
theorem rgI_snoc : ∀ k c, rgI k (c + 1) = rgI k c ++ [((k + c : Nat) : Int)]
  | k, 0 => by simp [rgI]
  | k, c + 1 => by
    show (k : Int) :: rgI (k + 1) (c + 1) = ((k : Int) :: rgI (k + 1) c) ++ _
    rw [rgI_snoc (k + 1) c]
    simp
    omega
theorem mem_rgI {x : Int} : ∀ {k c : Nat}, x ∈ rgI k c ↔ (k : Int) ≤ x ∧ x < (k : Int) + c
  | k, 0 => by simp only [rgI, List.not_mem_nil, false_iff]; omega
  | k, c + 1 => by
    rw [rgI, List.mem_cons, mem_rgI]
    omega
theorem erase_mid (a b : List Int) (x : Int) : (a ++ x :: b).eraseIdx a.length = a ++ b := by
  induction a with
  | nil => rfl
  | cons y a ih => simp [ih]
/-- what is kept when the first k statements have been tried -/
noncomputable def kept (n : Net) : Nat → List Int
  | 0 => []
  | k + 1 => bif conB n (kept n k ++ rgI (k + 1) (allS n - (k + 1))) then kept n k else kept n k ++ [(k : Int)]
theorem kept_mem (n : Net) : ∀ k x, x ∈ kept n k → 0 ≤ x ∧ x < k
  | 0, x, h => by simp [kept] at h
  | k + 1, x, h => by
    unfold kept at h
    cases hb : conB n (kept n k ++ rgI (k + 1) (allS n - (k + 1)))
    · rw [hb] at h
      rcases List.mem_append.1 h with h | h
      · have := kept_mem n k x h; omega
      · have e : x = (k : Int) := by simpa using h
        omega
    · rw [hb] at h
      have := kept_mem n k x h; omega
theorem kept_len (n : Net) : ∀ k, (kept n k).length ≤ k
  | 0 => by simp [kept]
  | k + 1 => by
    have ih := kept_len n k
    unfold kept
    cases conB n (kept n k ++ rgI (k + 1) (allS n - (k + 1)))
    · show (kept n k ++ [(k : Int)]).length ≤ _
      simp; omega
    · show (kept n k).length ≤ _
      omega
noncomputable def outL (n : Net) (k : Nat) : List Int := kept n k ++ rgI k (allS n - k)
theorem outL_at {n : Net} {k : Nat} (h : k < allS n) : outL n k = kept n k ++ (k : Int) :: rgI (k + 1) (allS n - (k + 1)) := by
  unfold outL
  rw [show allS n - k = (allS n - (k + 1)) + 1 by omega]
  rfl
theorem outL_drop {n : Net} {k : Nat} (h : k < allS n) : (outL n k).eraseIdx (kept n k).length = kept n k ++ rgI (k + 1) (allS n - (k + 1)) := by rw [outL_at h, erase_mid]
theorem outL_yes {n : Net} {k : Nat} (h : k < allS n) (hc : conB n ((outL n k).eraseIdx (kept n k).length) = true) : outL n (k + 1) = (outL n k).eraseIdx (kept n k).length ∧ kept n (k + 1) = kept n k := by
  rw [outL_drop h] at hc ⊢
  have e : kept n (k + 1) = kept n k := by
    show (bif conB n (kept n k ++ rgI (k + 1) (allS n - (k + 1))) then kept n k else kept n k ++ [(k : Int)]) = _
    rw [hc]; rfl
  unfold outL
  rw [e]
  exact ⟨rfl, rfl⟩
theorem outL_no {n : Net} {k : Nat} (h : k < allS n) (hc : conB n ((outL n k).eraseIdx (kept n k).length) = false) : outL n (k + 1) = outL n k ∧ (kept n (k + 1)).length = (kept n k).length + 1 := by
  rw [outL_drop h] at hc
  have e : kept n (k + 1) = kept n k ++ [(k : Int)] := by
    show (bif conB n (kept n k ++ rgI (k + 1) (allS n - (k + 1))) then kept n k else kept n k ++ [(k : Int)]) = _
    rw [hc]; rfl
  rw [outL_at h]
  unfold outL
  rw [e]
  exact ⟨by simp, by simp⟩
theorem outL_end (n : Net) : outL n (allS n) = kept n (allS n) := by
  unfold outL
  rw [Nat.sub_self]
  simp [rgI]
theorem outL_zero (n : Net) : outL n 0 = rgI 0 (allS n) := rfl
theorem outL_len (n : Net) (k : Nat) : (outL n k).length = (kept n k).length + (allS n - k) := by unfold outL; rw [List.length_append, rgI_len]
/-- where a statement not yet tried stands -/
theorem outL_index {n : Net} {k : Nat} (h : k < allS n) : inAt (outL n k) (kept n k).length = (k : Int) ∧ ∀ i, i < (kept n k).length → inAt (outL n k) i ≠ (k : Int) := by
  rw [outL_at h]
  constructor
  · unfold inAt
    rw [List.getD_eq_getElem?_getD, List.getElem?_append_right (Nat.le_refl _), Nat.sub_self]
    rfl
  · intro i hi e
    unfold inAt at e
    rw [List.getD_eq_getElem?_getD, List.getElem?_append_left hi, List.getElem?_eq_getElem hi] at e
    have := kept_mem n k _ (List.getElem_mem hi)
    have e2 : (kept n k)[i] = (k : Int) := e
    omega
/-- all statements contradict exactly if there is no solution -/
theorem conB_all (n : Net) : conB n (rgI 0 (allS n)) = !B (Sol n) := by
  unfold conB
  have e : giveN (fun i => ¬ HasI (rgI 0 (allS n)) i) n = n := by
    rw [giveN_congr (js := fun _ => False) (fun i hi => by
      rw [hasI_mem, mem_rgI]
      constructor
      · intro hh
        refine hh ⟨by omega, ?_⟩
        unfold allS
        omega
      · intro hh; exact hh.elim)]
    exact giveN_none (fun _ h => h) n
  rw [e]
theorem othTo_nil : ∀ k, othTo [] k = rgI 0 k
  | 0 => rfl
  | k + 1 => by rw [othTo_no (hasI_nil _), othTo_nil k, rgI_snoc]; simp
noncomputable def fcE (n : Net) : Int := bif B (blE n [] = 0) then (bif B (Sol n) then 4 else 0) else blE n []
noncomputable def fcL (n : Net) : List Int := bif B (blE n [] = 0) then (bif B (Sol n) then [] else outL n (allS n)) else []
theorem fc_code {n : Net} (h : blE n [] ≠ 0) : fcE n = blE n [] ∧ fcL n = [] := by unfold fcE fcL; rw [B_false h]; exact ⟨rfl, rfl⟩
theorem fc_sol {n : Net} (h : blE n [] = 0) (h2 : Sol n) : fcE n = 4 ∧ fcL n = [] := by unfold fcE fcL; rw [B_true h, B_true h2]; exact ⟨rfl, rfl⟩
theorem fc_ok {n : Net} (h : blE n [] = 0) (h2 : ¬ Sol n) : fcE n = 0 ∧ fcL n = outL n (allS n) := by unfold fcE fcL; rw [B_true h, B_false h2]; exact ⟨rfl, rfl⟩
theorem fcL_small (n : Net) : (fcL n).length ≤ 1048576 := by
  by_cases h : blE n [] = 0
  · by_cases h2 : Sol n
    · rw [(fc_sol h h2).2]; exact Nat.zero_le _
    · rw [(fc_ok h h2).2, outL_end]
      have h1 := kept_len n (allS n)
      have h2 := (blE_zero h).1
      have h3 := h2.1
      have h4 := h2.2.1
      unfold allS at *
      omega
  · rw [(fc_code h).2]; exact Nat.zero_le _
end Go.Proofs.YtfajmlkiidnhlaaGreat

/- Plain: statements given up, conflicts and repairs, by days. -/
namespace Go.Proofs.YtfajmlkiidnhlaaGreat
set_option linter.unusedVariables false
set_option linter.unusedSimpArgs false

/-- days that fulfil all statements but those of is -/
structure SolG (is : Nat → Prop) (n : Net) (ds : List Int) : Prop where
  len : ds.length = n.sets.length
  day : ∀ i, i < n.sets.length → DayOk (inAt ds i)
  sets : ∀ i, i < n.sets.length → ¬ is i → HasDay (setAt n.sets i) (inAt ds i)
  links : ∀ j, j < n.links.length → ¬ is (n.sets.length + j) → Holds (lkAt n.links j) ds
theorem SolG.mono {is js : Nat → Prop} {n : Net} {ds : List Int} (h : SolG is n ds) (hm : ∀ i, is i → js i) : SolG js n ds :=
  ⟨h.len, h.day, fun i hi hn => h.sets i hi (fun hh => hn (hm i hh)), fun j hj hn => h.links j hj (fun hh => hn (hm _ hh))⟩
theorem lkAt_end (l : List Lk) (x : Lk) {i : Nat} (hi : i < l.length + 1) : lkAt (l ++ [x]) i = if i = l.length then x else lkAt l i := by
  unfold lkAt
  rw [List.getD_eq_getElem?_getD, List.getD_eq_getElem?_getD]
  by_cases h2 : i = l.length
  · subst h2; simp
  · rw [if_neg h2, List.getElem?_append_left (by omega)]
theorem gvL_holds {is : Nat → Prop} {N : Nat} {l : List Lk} {ds : List Int} : ∀ j, (∀ i, i < (gvL is N l j).length → Holds (lkAt (gvL is N l j) i) ds) ↔ ∀ i, i < j → ¬ is (N + i) → Holds (lkAt l i) ds
  | 0 => ⟨fun _ i hi => absurd hi (by omega), fun _ i hi => absurd hi (by simp [gvL])⟩
  | j + 1 => by
    have ih := gvL_holds (is := is) (N := N) (l := l) (ds := ds) j
    by_cases h : is (N + j)
    · rw [gvL_yes h, ih]
      constructor
      · intro hh i hi hn
        by_cases e : i = j
        · subst e; exact absurd h hn
        · exact hh i (by omega) hn
      · exact fun hh i hi hn => hh i (by omega) hn
    · rw [gvL_no h]
      constructor
      · intro hh i hi hn
        by_cases e : i = j
        · subst e
          have h1 := hh (gvL is N l i).length (by simp)
          rw [lkAt_end _ _ (by omega), if_pos rfl] at h1
          exact h1
        · refine ih.1 (fun i' hi' => ?_) i (by omega) hn
          have h1 := hh i' (by simp; omega)
          rw [lkAt_end _ _ (by omega), if_neg (by omega)] at h1
          exact h1
      · intro hh i hi
        rw [lkAt_end _ _ (by simpa using hi)]
        split
        · exact hh j (by omega) h
        · exact ih.2 (fun i hi hn => hh i (by omega) hn) i (by simp at hi; omega)
theorem all_has {d : Int} (h : DayOk d) : HasDay allDays d := ⟨0, by simp [allDays], h.1, h.2⟩
theorem give_sol {is : Nat → Prop} {n : Net} (h : NetOk n) : Sol (giveN is n) ↔ ∃ ds, SolG is n ds := by
  have hg := giveN_ok (is := is) h
  have hns : (giveN is n).sets.length = n.sets.length := gvS_len is n.sets _
  rw [sol_days hg.2.2.2]
  constructor
  · rintro ⟨ds, h1, h2⟩
    rw [hns] at h1
    refine ⟨ds, h1, fun i hi => ?_, fun i hi hn => ?_, fun j hj hn => ?_⟩
    · exact (hg.2.2.1 i (by rw [hns]; exact hi)).d.day (h2.1 i (by omega))
    · have h3 := h2.1 i (by omega)
      have e : setAt (giveN is n).sets i = bif B (is i) then allDays else setAt n.sets i := gvS_at is n.sets _ i hi
      rw [e, B_false hn] at h3
      exact h3
    · exact (gvL_holds n.links.length).1 h2.2 j hj hn
  · rintro ⟨ds, h2⟩
    refine ⟨ds, by rw [hns]; exact h2.len, fun i hi => ?_, (gvL_holds n.links.length).2 h2.links⟩
    have hi' : i < n.sets.length := by rw [h2.len] at hi; exact hi
    have e : setAt (giveN is n).sets i = bif B (is i) then allDays else setAt n.sets i := gvS_at is n.sets _ i hi'
    rw [e]
    by_cases hn : is i
    · rw [B_true hn]; exact all_has (h2.day i hi')
    · rw [B_false hn]; exact h2.sets i hi' hn
theorem conB_true {n : Net} (h : NetOk n) {l : List Int} : conB n l = true ↔ ¬ ∃ ds, SolG (fun i => ¬ HasI l i) n ds := by
  unfold conB
  rw [B_congr (give_sol h)]
  cases hb : B (∃ ds, SolG (fun i => ¬ HasI l i) n ds)
  · exact ⟨fun _ hh => (by rw [B_true hh] at hb; cases hb), fun _ => rfl⟩
  · exact ⟨fun hh => (by cases hh), fun hh => absurd (B_iff.1 hb) hh⟩
theorem conB_mono {n : Net} (h : NetOk n) {a b : List Int} (hs : ∀ x, x ∈ a → x ∈ b) (hc : conB n a = true) : conB n b = true := by
  rw [conB_true h] at hc ⊢
  rintro ⟨ds, hd⟩
  refine hc ⟨ds, hd.mono (fun i hi hh => hi ?_)⟩
  rw [hasI_mem] at hh ⊢
  exact hs _ hh
theorem repB_true {n : Net} (h : NetOk n) {l : List Int} : repB n l = true ↔ ∃ ds, SolG (fun i => HasI l i) n ds := by
  unfold repB
  rw [B_iff, give_sol h]
/-- a conflict and a repair share a statement -/
theorem share {n : Net} (h : NetOk n) {a b : List Int} (hc : conB n a = true) (hr : repB n b = true) : ∃ x, x ∈ a ∧ x ∈ b := by
  apply Classical.byContradiction
  intro hn
  rw [conB_true h] at hc
  obtain ⟨ds, hd⟩ := (repB_true h).1 hr
  refine hc ⟨ds, hd.mono (fun i hi hh => ?_)⟩
  rw [hasI_mem] at hi hh
  exact hn ⟨_, hh, hi⟩
/-! ### the conflict that is found -/
def Asc (l : List Int) : Prop := ∀ i, 0 < i → i < l.length → inAt l (i - 1) < inAt l i
theorem inAt_end (l : List Int) (x : Int) {i : Nat} (hi : i < l.length + 1) : inAt (l ++ [x]) i = if i = l.length then x else inAt l i := by
  unfold inAt
  rw [List.getD_eq_getElem?_getD, List.getD_eq_getElem?_getD]
  by_cases h2 : i = l.length
  · subst h2; simp
  · rw [if_neg h2, List.getElem?_append_left (by omega)]
theorem inAt_mem {l : List Int} {i : Nat} (h : i < l.length) : inAt l i ∈ l := by
  unfold inAt
  rw [List.getD_eq_getElem?_getD, List.getElem?_eq_getElem h]
  exact List.getElem_mem h
theorem mem_inAt {l : List Int} {x : Int} (h : x ∈ l) : ∃ i, i < l.length ∧ inAt l i = x := hasI_mem.2 h
theorem Asc.push {l : List Int} {x : Int} (h : Asc l) (hx : ∀ y, y ∈ l → y < x) : Asc (l ++ [x]) := by
  intro i h0 hi
  have hi' : i < l.length + 1 := by simpa using hi
  rw [inAt_end _ _ (by omega), inAt_end _ _ hi', if_neg (by omega)]
  split
  · exact hx _ (inAt_mem (by omega))
  · exact h i h0 (by omega)
theorem kept_asc (n : Net) : ∀ k, Asc (kept n k)
  | 0 => fun i _ hi => absurd hi (by simp [kept])
  | k + 1 => by
    show Asc (bif conB n (kept n k ++ rgI (k + 1) (allS n - (k + 1))) then kept n k else kept n k ++ [(k : Int)])
    cases conB n (kept n k ++ rgI (k + 1) (allS n - (k + 1)))
    · exact (kept_asc n k).push (fun y hy => (kept_mem n k y hy).2)
    · exact kept_asc n k
theorem Asc.lt {l : List Int} (h : Asc l) {i : Nat} : ∀ k, i < k → k < l.length → inAt l i < inAt l k
  | 0, h1, _ => absurd h1 (by omega)
  | k + 1, h1, h2 => by
    have h3 := h (k + 1) (by omega) h2
    rw [show k + 1 - 1 = k by omega] at h3
    by_cases e : i = k
    · subst e; exact h3
    · have := Asc.lt (i := i) h k (by omega) (by omega)
      omega
theorem erase_mem {l : List Int} (h : Asc l) {i : Nat} (hi : i < l.length) {x : Int} (hx : x ∈ l.eraseIdx i) : x ∈ l ∧ x ≠ inAt l i := by
  obtain ⟨k, hk, e⟩ := List.getElem_of_mem hx
  rw [List.length_eraseIdx] at hk
  have hk' : k < l.length - 1 := by simpa [hi] using hk
  rw [List.getElem_eraseIdx] at e
  split at e
  · rename_i hki
    have e2 : inAt l k = x := by
      unfold inAt
      rw [List.getD_eq_getElem?_getD, List.getElem?_eq_getElem (by omega)]
      exact e
    have := h.lt i hki hi
    exact ⟨by rw [← e]; exact List.getElem_mem _, by omega⟩
  · have e2 : inAt l (k + 1) = x := by
      unfold inAt
      rw [List.getD_eq_getElem?_getD, List.getElem?_eq_getElem (by omega)]
      exact e
    have := h.lt (i := i) (k + 1) (by omega) (by omega)
    exact ⟨by rw [← e]; exact List.getElem_mem _, by omega⟩
theorem out_con {n : Net} (hs : ¬ Sol n) : ∀ k, k ≤ allS n → conB n (outL n k) = true
  | 0, _ => by rw [outL_zero, conB_all, B_false hs]; rfl
  | k + 1, hk => by
    have ih := out_con hs k (by omega)
    cases hc : conB n ((outL n k).eraseIdx (kept n k).length)
    · rw [(outL_no (by omega) hc).1]; exact ih
    · rw [(outL_yes (by omega) hc).1]; exact hc
/-- what is kept at k stays, and what is kept later is not before k -/
theorem kept_more (n : Net) (k : Nat) : ∀ d x, x ∈ kept n (k + d) → x ∈ kept n k ∨ (k : Int) ≤ x
  | 0, _, h => .inl h
  | d + 1, x, h => by
    have h' : x ∈ (bif conB n (kept n (k + d) ++ rgI (k + d + 1) (allS n - (k + d + 1))) then kept n (k + d) else kept n (k + d) ++ [((k + d : Nat) : Int)]) := h
    cases hb : conB n (kept n (k + d) ++ rgI (k + d + 1) (allS n - (k + d + 1)))
    · rw [hb] at h'
      rcases List.mem_append.1 h' with h1 | h1
      · exact kept_more n k d x h1
      · have e : x = ((k + d : Nat) : Int) := by simpa using h1
        exact .inr (by omega)
    · rw [hb] at h'
      exact kept_more n k d x h'
theorem kept_why (n : Net) : ∀ m x, x ∈ kept n m → ∃ k, k < m ∧ x = (k : Int) ∧ conB n (kept n k ++ rgI (k + 1) (allS n - (k + 1))) = false
  | 0, x, h => by simp [kept] at h
  | m + 1, x, h => by
    have h' : x ∈ (bif conB n (kept n m ++ rgI (m + 1) (allS n - (m + 1))) then kept n m else kept n m ++ [(m : Int)]) := h
    cases hb : conB n (kept n m ++ rgI (m + 1) (allS n - (m + 1)))
    · rw [hb] at h'
      rcases List.mem_append.1 h' with h1 | h1
      · obtain ⟨k, h2, h3⟩ := kept_why n m x h1
        exact ⟨k, by omega, h3⟩
      · exact ⟨m, by omega, by simpa using h1, hb⟩
    · rw [hb] at h'
      obtain ⟨k, h2, h3⟩ := kept_why n m x h'
      exact ⟨k, by omega, h3⟩
theorem fc_conf {n : Net} (h : blE n [] = 0) (hs : ¬ Sol n) : fcE n = 0 ∧ blE n (fcL n) = 0 ∧ confV n (fcL n) = true := by
  obtain ⟨e1, e2⟩ := fc_ok h hs
  obtain ⟨hok, _, hbl⟩ := blE_zero h
  have hasc := kept_asc n (allS n)
  have hst : StmOk n (kept n (allS n)) := fun i hi => ⟨by
    have := kept_mem n (allS n) _ (inAt_mem hi)
    have e : ((allS n : Nat) : Int) = (n.sets.length : Int) + n.links.length := by unfold allS; omega
    omega, fun h0 => hasc i h0 hi⟩
  have hb : blE n (kept n (allS n)) = 0 := blE_ok (stm_ok hok hst) hbl
  rw [e2, outL_end]
  refine ⟨e1, hb, ?_⟩
  rw [confV_ok hb]
  have hc := out_con hs (allS n) (Nat.le_refl _)
  rw [outL_end] at hc
  refine B_true ⟨hc, fun i hi => ?_⟩
  obtain ⟨k, hk, e, hf⟩ := kept_why n _ _ (inAt_mem hi)
  cases hx : conB n ((kept n (allS n)).eraseIdx i)
  · rfl
  · rw [conB_mono hok (fun x hm => ?_) hx] at hf
    · exact hf
    · obtain ⟨h1, h2⟩ := erase_mem hasc hi hm
      rw [List.mem_append, mem_rgI]
      have h3 := kept_mem n _ _ h1
      have h4 := kept_more n k (allS n - k) x (by rw [show k + (allS n - k) = allS n by omega]; exact h1)
      rcases h4 with h4 | h4
      · exact .inl h4
      · exact .inr (by omega)
/-! ### the repair that is found -/
theorem nat_first {p : Nat → Prop} {N : Nat} (h : ∃ s, s < N ∧ p s) : ∃ s, s < N ∧ p s ∧ ∀ k, k < s → ¬ p k := by
  obtain ⟨i, h1, h2, h3⟩ := nat_least N h
  exact ⟨i, h1, h2, h3⟩
/-- the ways that the smallest repair goes -/
theorem sm_ways {n : Net} (h : blE n [] = 0) :
    (Sol n ∧ smE n = 0 ∧ smL n = []) ∨ (¬ Sol n ∧ smE n = 0 ∧ ∃ s : Nat, s < allS n ∧ smL n = [(s : Int)] ∧ Rep1 n s) ∨
      (¬ Sol n ∧ smE n = 0 ∧ ∃ s t : Nat, s < t ∧ t < allS n ∧ smL n = [(s : Int), (t : Int)] ∧ Rep2 n s t ∧ ∀ k, k < allS n → ¬ Rep1 n k) ∨ (¬ Sol n ∧ smE n = 4 ∧ smL n = []) := by
  by_cases hs : Sol n
  · exact .inl ⟨hs, (sm_sol h hs).1, (sm_sol h hs).2⟩
  · by_cases h1 : ∃ s, s < allS n ∧ Rep1 n s
    · obtain ⟨s, a, b, c⟩ := nat_first h1
      have := sm_one h hs a b c
      exact .inr (.inl ⟨hs, this.1, s, a, this.2, b⟩)
    · have h1' : ∀ k, k < allS n → ¬ Rep1 n k := fun k hk hr => h1 ⟨k, hk, hr⟩
      by_cases h2 : ∃ s, s < allS n ∧ RepP n s
      · obtain ⟨s, a, b, c⟩ := nat_first h2
        obtain ⟨t0, b1, b2, b3⟩ := b
        obtain ⟨t, d, e, f⟩ := nat_first (p := fun t => s < t ∧ Rep2 n s t) ⟨t0, b2, b1, b3⟩
        have := sm_two h hs h1' e.1 d e.2 c (fun k k1 k2 hr => f k k2 ⟨k1, hr⟩)
        exact .inr (.inr (.inl ⟨hs, this.1, s, t, e.1, d, this.2, e.2, h1'⟩))
      · have := sm_none h hs h1' (fun k hk hr => h2 ⟨k, hk, hr⟩)
        exact .inr (.inr (.inr ⟨hs, this.1, this.2⟩))
theorem bl_one {n : Net} (h : blE n [] = 0) {s : Nat} (hs : s < allS n) : blE n [(s : Int)] = 0 := by
  obtain ⟨hok, _, hbl⟩ := blE_zero h
  refine blE_ok (stm_ok hok (fun i hi => ?_)) hbl
  have e : i = 0 := by simp at hi; exact hi
  subst e
  unfold allS at hs
  exact ⟨⟨by show (0 : Int) ≤ (s : Int); omega, by show (s : Int) ≤ _; omega⟩, fun h0 => absurd h0 (by omega)⟩
theorem bl_two {n : Net} (h : blE n [] = 0) {s t : Nat} (hs : s < t) (ht : t < allS n) : blE n [(s : Int), (t : Int)] = 0 := by
  obtain ⟨hok, _, hbl⟩ := blE_zero h
  unfold allS at ht
  refine blE_ok (stm_ok hok (fun i hi => ?_)) hbl
  have hi' : i < 2 := hi
  match i, hi' with
  | 0, _ => exact ⟨⟨by show (0 : Int) ≤ (s : Int); omega, by show (s : Int) ≤ _; omega⟩, fun h0 => absurd h0 (by omega)⟩
  | 1, _ => exact ⟨⟨by show (0 : Int) ≤ (t : Int); omega, by show (t : Int) ≤ _; omega⟩, fun _ => by show (s : Int) < (t : Int); omega⟩
theorem sm_zero {n : Net} (h : smE n = 0) : blE n [] = 0 := Classical.byContradiction (fun hh => by rw [(sm_code hh).1] at h; exact hh h)
/-- the smallest repair is one; with one statement less it is none -/
theorem sm_law {n : Net} (h : smE n = 0) : blE n (smL n) = 0 ∧ isRepV n (smL n) = true ∧ (smL n).length ≤ 2 ∧ (smL n ≠ [] → blE n (smL n).tail = 0 ∧ isRepV n (smL n).tail = false) := by
  have h0 := sm_zero h
  rcases sm_ways h0 with ⟨hs, _, e⟩ | ⟨hs, _, s, hsl, e, hr⟩ | ⟨hs, _, s, t, hst, ht, e, hr, h1⟩ | ⟨_, e, _⟩
  · rw [e]
    exact ⟨h0, by rw [isRepV_ok h0, repB_nil, B_true hs], by simp, fun hh => absurd rfl hh⟩
  · rw [e]
    refine ⟨bl_one h0 hsl, by rw [isRepV_ok (bl_one h0 hsl)]; exact hr, by simp, fun _ => ⟨h0, ?_⟩⟩
    show isRepV n [] = false
    rw [isRepV_ok h0, repB_nil, B_false hs]
  · rw [e]
    refine ⟨bl_two h0 hst ht, by rw [isRepV_ok (bl_two h0 hst ht)]; exact hr, by simp, fun _ => ⟨bl_one h0 ht, ?_⟩⟩
    show isRepV n [(t : Int)] = false
    rw [isRepV_ok (bl_one h0 ht)]
    cases hb : repB n [(t : Int)]
    · rfl
    · exact absurd hb (h1 t ht)
  · omega
/-- a conflict that is found and the repair share a statement -/
theorem top_share {n : Net} (hs : ¬ Sol n) (hr : smE n = 0) : ∃ i, i < (fcL n).length ∧ HasI (smL n) (inAt (fcL n) i) := by
  have h0 := sm_zero hr
  have hok := (blE_zero h0).1
  obtain ⟨e1, e2⟩ := fc_ok h0 hs
  have hc := out_con hs (allS n) (Nat.le_refl _)
  obtain ⟨h1, h2, _⟩ := sm_law hr
  rw [isRepV_ok h1] at h2
  obtain ⟨x, hx1, hx2⟩ := share hok hc h2
  rw [← e2] at hx1
  obtain ⟨i, hi, e⟩ := mem_inAt hx1
  exact ⟨i, hi, by rw [e]; exact hasI_mem.2 hx2⟩
theorem bl_lim {n : Net} (h : NetOk n) : blE n [] = 0 ∨ blE n [] = 3 := by
  have hs : stmE n [] = 0 := stm_ok h (fun i hi => absurd hi (by simp))
  by_cases h2 : blN n ≤ 256
  · exact .inl (blE_ok hs h2)
  · exact .inr (blE_big hs h2)
end Go.Proofs.YtfajmlkiidnhlaaGreat

/- Plain: what the law FnTop asks. -/
namespace Go.Proofs.YtfajmlkiidnhlaaGreat
set_option linter.unusedVariables false
set_option linter.unusedSimpArgs false

theorem top_nar {n : Net} (h : codeE n true = 0) (hs : Sol n) : naE n = 3 ∨ (naE n = 0 ∧ dayE (naV n) (firL n) = 0 ∧ solvB (naV n) (firL n) = true) := by
  obtain ⟨_, _, _, e4, e5, _⟩ := first_sol h hs
  have ho := (codeE_zero h).1
  by_cases h2 : ∃ k, Stops n k
  · obtain ⟨k, hk⟩ := h2
    obtain ⟨k1, _, k3⟩ := na_yes ho hk
    have h3 := Goes.lim ho hk.2.1
    have h4 := itR_solves ho.d e4 e5 k
    have h5 : (firL n).length = (itR n k).sets.length := by rw [e4, ((itR_ok ho.d k).2).ns]
    rw [k1]
    exact .inr ⟨k3, day_ok h3 h5 h4.1, solvB_ok h3 h5 h4⟩
  · exact .inl (na_no ho h2).2.2
theorem top_fc {n : Net} (h : codeE n true = 0) (hs : ¬ Sol n) : (fcE n = 0 ∧ blE n [] = 0) ∨ fcE n = 3 := by
  rcases bl_lim (codeE_zero h).1 with e | e
  · exact .inl ⟨(fc_ok e hs).1, e⟩
  · exact .inr (by rw [(fc_code (n := n) (by omega)).1, e])
theorem top_sm {n : Net} (h : blE n [] = 0) : smE n = 0 ∨ smE n = 4 := by
  unfold smE
  rw [B_true h]
  cases B (Sol n ∨ (∃ s, s < allS n ∧ Rep1 n s) ∨ ∃ s, s < allS n ∧ RepP n s)
  · exact .inr rfl
  · exact .inl rfl
end Go.Proofs.YtfajmlkiidnhlaaGreat

/- Contracts: DisputedStatements. -/
namespace Go.Proofs.YtfajmlkiidnhlaaGreat
set_option linter.unusedVariables false
set_option linter.unusedSimpArgs false
open Go.RowKit
attribute [local go_sem] cell_onto

theorem boxInts (w : World) (o : Obj) (x : Int) (T : TypeId) : Ints ((w.alloc o).alloc (.cells #[.int .i64 x] T)) 0 ((w.alloc o).alloc (.cells #[.int .i64 x] T)).heap.size (.slice (some ⟨w.heap.size + 1, 0, none⟩) 1 1) [x] := by
  have := (Boxed.new (w.alloc o) [.int .i64 x] T).row (sz := 1) (f := intCell [x]) rfl (int_cells x)
  rwa [show (w.alloc o).heap.size = w.heap.size + 1 from World.size_alloc _ _] at this
theorem boxInts0 (w : World) (x : Int) (T : TypeId) : Ints (w.alloc (.cells #[.int .i64 x] T)) 0 (w.alloc (.cells #[.int .i64 x] T)).heap.size (.slice (some ⟨w.heap.size, 0, none⟩) 1 1) [x] :=
  (Boxed.new w [.int .i64 x] T).row (sz := 1) (f := intCell [x]) rfl (int_cells x)
theorem NewInts2.of_row {w w' : World} {b T : Nat} {v : Value} {l : List Int} (c : Int) (hx : Ext w w') (h : w'.ownsRow b T 1 v l.length (cellsOf (l.length * 1) (intCell l))) (hb : w.heap.size ≤ b) : NewInts2 l c w (.returned (.tuple #[v, .int .i64 c])) w' := by
  obtain ⟨g, hg, ho⟩ := Own.of_owned h
  exact ⟨v, g, rfl, hx, fun h0 => by have := (hg h0).2; omega, ho⟩
theorem emptyRow (w : World) (o : Obj) (T : TypeId) : ((w.alloc o).alloc (.cells #[] T)).ownsRow (w.heap.size + 1) T 1 (.slice (some ⟨w.heap.size + 1, 0, none⟩) 0 0) 0 (cellsOf (0 * 1) (intCell [])) := by
  have := World.ownsRow_made (base := w.heap.size + 1) (e := T) (size := 1) (w.alloc o) #[] 0 (by simp) (Nat.zero_le _) rfl
  simpa [cellsOf] using this

end Go.Proofs.YtfajmlkiidnhlaaGreat
