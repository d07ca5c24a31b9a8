/- The lexicographically least of lists of one length; the product of the numbers of spans where sets may be given up. Plain Lean. -/
import Derived.Test.YtfmnkojjkjkdeaaDoorCh
import Derived.Test.YtfmnkojjkjkdeaaDoorSg
namespace Go.Proofs.YtfmnkojjkjkdeaaDoor
set_option linter.unusedVariables false
set_option linter.unusedSimpArgs false

def Lex (a b : List Int) : Prop := ∃ i, i < a.length ∧ (∀ j, j < i → inAt a j = inAt b j) ∧ inAt a i < inAt b i
theorem lex_step {a b : List Int} {i : Nat} (hi : i < a.length) (h : ∀ j, j < i → inAt a j = inAt b j) (hne : inAt a i ≠ inAt b i) : Lex a b ↔ inAt a i < inAt b i := by
  constructor
  · rintro ⟨k, hk, h1, h2⟩
    rcases Nat.lt_trichotomy i k with e | e | e
    · exact absurd (h1 i e) hne
    · subst e; exact h2
    · have := h k e; omega
  · exact fun h2 => ⟨i, hi, h, h2⟩
theorem lex_end {a b : List Int} (h : ∀ j, j < a.length → inAt a j = inAt b j) : ¬ Lex a b := by
  rintro ⟨k, hk, _, h2⟩
  have := h k hk
  omega
theorem lex_irr (a : List Int) : ¬ Lex a a := lex_end (fun _ _ => rfl)
theorem nat_least {p : Nat → Prop} : ∀ n, (∃ i, i < n ∧ p i) → ∃ i, i < n ∧ p i ∧ ∀ j, j < i → ¬ p j
  | 0, ⟨i, hi, _⟩ => absurd hi (by omega)
  | n + 1, ⟨i, hi, hp⟩ => by
    by_cases h : ∃ i, i < n ∧ p i
    · obtain ⟨k, hk, h1, h2⟩ := nat_least n h
      exact ⟨k, by omega, h1, h2⟩
    · have : i = n := by
        rcases Nat.lt_or_ge i n with e | e
        · exact absurd ⟨i, e, hp⟩ h
        · omega
      subst this
      exact ⟨i, hi, hp, fun j hj hpj => h ⟨j, hj, hpj⟩⟩
theorem lex_total {a b : List Int} (hl : a.length = b.length) (h1 : ¬ Lex a b) (h2 : ¬ Lex b a) : a = b := by
  refine list_ext hl (fun i hi => ?_)
  by_cases h : ∃ i, i < a.length ∧ inAt a i ≠ inAt b i
  · obtain ⟨k, hk, h3, h4⟩ := nat_least _ h
    have h5 : ∀ j, j < k → inAt a j = inAt b j := fun j hj => Classical.not_not.1 (h4 j hj)
    rcases Int.lt_trichotomy (inAt a k) (inAt b k) with e | e | e
    · exact absurd ⟨k, hk, h5, e⟩ h1
    · exact absurd e h3
    · exact absurd ⟨k, by omega, fun j hj => (h5 j hj).symm, e⟩ h2
  · exact Classical.not_not.1 (fun hh => h ⟨i, hi, hh⟩)
theorem lex_trans {a b c : List Int} (hl : a.length = b.length) (h1 : Lex a b) (h2 : Lex b c) : Lex a c := by
  obtain ⟨i, hi, h3, h4⟩ := h1
  obtain ⟨k, hk, h5, h6⟩ := h2
  rcases Nat.lt_trichotomy i k with e | e | e
  · exact ⟨i, hi, fun j hj => (h3 j hj).trans (h5 j (by omega)), by have := h5 i e; omega⟩
  · subst e; exact ⟨i, hi, fun j hj => (h3 j hj).trans (h5 j hj), by omega⟩
  · exact ⟨k, by omega, fun j hj => (h3 j (by omega)).trans (h5 j hj), by have := h3 k e; omega⟩
noncomputable def pick (o : Option (List Int)) (x : List Int) : Option (List Int) :=
  match o with
  | none => some x
  | some b => bif B (Lex x b) then some x else some b
noncomputable def bestL (l : List (List Int)) : Option (List Int) := l.foldl pick none
theorem bestL_snoc (l : List (List Int)) (x : List Int) : bestL (l ++ [x]) = pick (bestL l) x := by
  unfold bestL
  rw [List.foldl_append]
  rfl
theorem pick_none (x : List Int) : pick none x = some x := rfl
theorem pick_yes {b x : List Int} (h : Lex x b) : pick (some b) x = some x := by unfold pick; simp only; rw [B_true h]; rfl
theorem pick_no {b x : List Int} (h : ¬ Lex x b) : pick (some b) x = some b := by unfold pick; simp only; rw [B_false h]; rfl
theorem best_from {N : Nat} : ∀ (l : List (List Int)) (m : List Int), m.length = N → (∀ x, x ∈ l → x.length = N) →
    ∃ m', l.foldl pick (some m) = some m' ∧ (m' = m ∨ m' ∈ l) ∧ ¬ Lex m m' ∧ ∀ x, x ∈ l → ¬ Lex x m'
  | [], m, _, _ => ⟨m, rfl, .inl rfl, lex_irr m, fun x hx => by cases hx⟩
  | y :: l, m, hm, hl => by
    have hy : y.length = N := hl y (by simp)
    have hl' : ∀ x, x ∈ l → x.length = N := fun x hx => hl x (by simp [hx])
    by_cases h : Lex y m
    · obtain ⟨m', h1, h2, h3, h4⟩ := best_from l y hy hl'
      refine ⟨m', by rw [List.foldl_cons, pick_yes h]; exact h1, .inr ?_, fun hh => h3 (lex_trans (by omega) h hh), fun x hx => ?_⟩
      · rcases h2 with h2 | h2
        · rw [h2]; simp
        · simp [h2]
      · rcases List.mem_cons.1 hx with e | e
        · subst e; exact h3
        · exact h4 x e
    · obtain ⟨m', h1, h2, h3, h4⟩ := best_from l m hm hl'
      have hm' : m'.length = N := by
        rcases h2 with h2 | h2
        · rw [h2]; exact hm
        · exact hl' m' h2
      refine ⟨m', by rw [List.foldl_cons, pick_no h]; exact h1, ?_, h3, fun x hx => ?_⟩
      · rcases h2 with h2 | h2
        · exact .inl h2
        · exact .inr (by simp [h2])
      · rcases List.mem_cons.1 hx with e | e
        · subst e
          intro hh
          by_cases h5 : Lex m' m
          · exact h (lex_trans (by omega) hh h5)
          · have e2 := lex_total (by omega) h5 h3
            rw [e2] at hh
            exact h hh
        · exact h4 x e
theorem best_some {N : Nat} {l : List (List Int)} (hl : ∀ x, x ∈ l → x.length = N) (h0 : l ≠ []) : ∃ m, bestL l = some m ∧ m ∈ l ∧ ∀ x, x ∈ l → ¬ Lex x m := by
  match l, h0 with
  | y :: l, _ =>
    obtain ⟨m, h1, h2, h3, h4⟩ := best_from l y (hl y (by simp)) (fun x hx => hl x (by simp [hx]))
    refine ⟨m, h1, ?_, fun x hx => ?_⟩
    · rcases h2 with h2 | h2
      · rw [h2]; simp
      · simp [h2]
    · rcases List.mem_cons.1 hx with e | e
      · subst e; exact h3
      · exact h4 x e
theorem best_same {N : Nat} {l l' : List (List Int)} (hl : ∀ x, x ∈ l → x.length = N) (h : ∀ x, x ∈ l ↔ x ∈ l') : bestL l = bestL l' := by
  by_cases h0 : l = []
  · subst h0
    have : l' = [] := List.eq_nil_iff_forall_not_mem.2 (fun x hx => by have := (h x).2 hx; cases this)
    rw [this]
  · have h0' : l' ≠ [] := fun e => by
      subst e
      exact h0 (List.eq_nil_iff_forall_not_mem.2 (fun x hx => by have := (h x).1 hx; cases this))
    have hl' : ∀ x, x ∈ l' → x.length = N := fun x hx => hl x ((h x).2 hx)
    obtain ⟨m, h1, h2, h3⟩ := best_some hl h0
    obtain ⟨m', h1', h2', h3'⟩ := best_some hl' h0'
    rw [h1, h1', lex_total (by rw [hl m h2, hl' m' h2']) (h3' m ((h m).1 h2)) (h3 m' ((h m').2 h2'))]

/-! ### the choices that have solutions, in the one order and in the other -/
noncomputable def okCh (ls : List Lk) (l : List (List Sp)) : List (List Sp) := l.filter (fun c => B (ChOk ls c))
theorem okCh_yes {ls : List Lk} {l : List (List Sp)} {c : List Sp} (h : ChOk ls c) : okCh ls (l ++ [c]) = okCh ls l ++ [c] := by
  unfold okCh
  rw [List.filter_append]
  simp [B_true h]
theorem okCh_no {ls : List Lk} {l : List (List Sp)} {c : List Sp} (h : ¬ ChOk ls c) : okCh ls (l ++ [c]) = okCh ls l := by
  unfold okCh
  rw [List.filter_append]
  simp [B_false h]
theorem mem_okCh {ls : List Lk} {l : List (List Sp)} {c : List Sp} : c ∈ okCh ls l ↔ c ∈ l ∧ ChOk ls c := by
  unfold okCh
  rw [List.mem_filter, B_iff]
def numCh (l : List (List Sp)) : Nat → List (List Sp)
  | 0 => []
  | k + 1 => numCh l k ++ [chN l k]
theorem mem_numCh {l : List (List Sp)} {c : List Sp} : ∀ k, c ∈ numCh l k ↔ ∃ i, i < k ∧ chN l i = c
  | 0 => by simp [numCh]
  | k + 1 => by
    rw [numCh, List.mem_append, mem_numCh k]
    constructor
    · rintro (⟨i, hi, e⟩ | h)
      · exact ⟨i, by omega, e⟩
      · exact ⟨k, by omega, (by simpa using h : c = chN l k).symm⟩
    · rintro ⟨i, hi, e⟩
      by_cases h : i = k
      · subst h; right; simp [e]
      · left; exact ⟨i, by omega, e⟩
theorem mem_both {l : List (List Sp)} {c : List Sp} : c ∈ numCh l (prodN l) ↔ c ∈ allCh l [] := by
  rw [mem_numCh, mem_allCh]
  constructor
  · rintro ⟨i, hi, e⟩
    exact ⟨c, by rw [← e]; exact chN_isCh l i hi, rfl⟩
  · rintro ⟨t, h1, e⟩
    obtain ⟨k, hk, e2⟩ := isCh_chN h1
    exact ⟨k, hk, by rw [e2, e]; rfl⟩
noncomputable def lows (ls : List Lk) (l : List (List Sp)) : List (List Int) := (okCh ls l).map (lowV ls)
theorem mem_allCh_len {l : List (List Sp)} {c : List Sp} (h : c ∈ allCh l []) : c.length = l.length := by
  obtain ⟨t, h1, e⟩ := mem_allCh.1 h
  rw [e]
  exact h1.len
theorem best_both (n : Net) : bestL (lows n.links (numCh n.sets (prodN n.sets))) = bestL (lows n.links (allCh n.sets [])) := by
  refine best_same (N := n.sets.length) (fun x hx => ?_) (fun x => ?_)
  · unfold lows at hx
    obtain ⟨c, hc, e⟩ := List.mem_map.1 hx
    rw [← e, lowV_len]
    exact mem_allCh_len (mem_both.1 (mem_okCh.1 hc).1)
  · unfold lows
    rw [List.mem_map, List.mem_map]
    constructor
    · rintro ⟨c, hc, e⟩
      exact ⟨c, mem_okCh.2 ⟨mem_both.1 (mem_okCh.1 hc).1, (mem_okCh.1 hc).2⟩, e⟩
    · rintro ⟨c, hc, e⟩
      exact ⟨c, mem_okCh.2 ⟨mem_both.2 (mem_okCh.1 hc).1, (mem_okCh.1 hc).2⟩, e⟩
theorem sol_okCh (n : Net) : Sol n ↔ okCh n.links (allCh n.sets []) ≠ [] := by
  rw [sol_all]
  constructor
  · rintro ⟨c, h1, h2⟩ e
    have := mem_okCh.2 ⟨h1, h2⟩
    rw [e] at this
    cases this
  · intro h
    match hh : okCh n.links (allCh n.sets []), h with
    | c :: r, _ =>
      have : c ∈ okCh n.links (allCh n.sets []) := by rw [hh]; simp
      exact ⟨c, (mem_okCh.1 this).1, (mem_okCh.1 this).2⟩
end Go.Proofs.YtfmnkojjkjkdeaaDoor
