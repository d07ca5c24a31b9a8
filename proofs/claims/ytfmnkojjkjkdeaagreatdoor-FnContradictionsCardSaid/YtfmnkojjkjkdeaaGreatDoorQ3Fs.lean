/- Texts merged (a claim holds at most sixty files): Fs, Bl, Rb. -/
import Derived.Test.YtfmnkojjkjkdeaaGreatDoorQ3Up
import Derived.Test.YtfmnkojjkjkdeaaGreatDoorQ3Dp
import Derived.Test.YtfmnkojjkjkdeaaGreatDoorQ3Yb
import Derived.Test.YtfmnkojjkjkdeaaGreatDoorQ3G
/- The lexicographically least of lists of one length; the product of the numbers of spans where sets may be given up. Plain Lean. -/
namespace Go.Proofs.YtfmnkojjkjkdeaaGreatDoor
set_option linter.unusedVariables false
set_option linter.unusedSimpArgs false

def Lex (a b : List Int) : Prop := ∃ i, i < a.length ∧ (∀ j, j < i → inAt a j = inAt b j) ∧ inAt a i < inAt b i
theorem lex_step {a b : List Int} {i : Nat} (hi : i < a.length) (h : ∀ j, j < i → inAt a j = inAt b j) (hne : inAt a i ≠ inAt b i) : Lex a b ↔ inAt a i < inAt b i := by
  constructor
  · rintro ⟨k, hk, h1, h2⟩
    rcases Nat.lt_trichotomy i k with e | e | e
    · exact absurd (h1 i e) hne
    · subst e; exact h2
    · have := h k e; omega
  · exact fun h2 => ⟨i, hi, h, h2⟩
theorem lex_end {a b : List Int} (h : ∀ j, j < a.length → inAt a j = inAt b j) : ¬ Lex a b := by
  rintro ⟨k, hk, _, h2⟩
  have := h k hk
  omega
theorem lex_irr (a : List Int) : ¬ Lex a a := lex_end (fun _ _ => rfl)
theorem nat_least {p : Nat → Prop} : ∀ n, (∃ i, i < n ∧ p i) → ∃ i, i < n ∧ p i ∧ ∀ j, j < i → ¬ p j
  | 0, ⟨i, hi, _⟩ => absurd hi (by omega)
  | n + 1, ⟨i, hi, hp⟩ => by
    by_cases h : ∃ i, i < n ∧ p i
    · obtain ⟨k, hk, h1, h2⟩ := nat_least n h
      exact ⟨k, by omega, h1, h2⟩
    · have : i = n := by
        rcases Nat.lt_or_ge i n with e | e
        · exact absurd ⟨i, e, hp⟩ h
        · omega
      subst this
      exact ⟨i, hi, hp, fun j hj hpj => h ⟨j, hj, hpj⟩⟩
theorem lex_total {a b : List Int} (hl : a.length = b.length) (h1 : ¬ Lex a b) (h2 : ¬ Lex b a) : a = b := by
  refine list_ext hl (fun i hi => ?_)
  by_cases h : ∃ i, i < a.length ∧ inAt a i ≠ inAt b i
  · obtain ⟨k, hk, h3, h4⟩ := nat_least _ h
    have h5 : ∀ j, j < k → inAt a j = inAt b j := fun j hj => Classical.not_not.1 (h4 j hj)
    rcases Int.lt_trichotomy (inAt a k) (inAt b k) with e | e | e
    · exact absurd ⟨k, hk, h5, e⟩ h1
    · exact absurd e h3
    · exact absurd ⟨k, by omega, fun j hj => (h5 j hj).symm, e⟩ h2
  · exact Classical.not_not.1 (fun hh => h ⟨i, hi, hh⟩)
theorem lex_trans {a b c : List Int} (hl : a.length = b.length) (h1 : Lex a b) (h2 : Lex b c) : Lex a c := by
  obtain ⟨i, hi, h3, h4⟩ := h1
  obtain ⟨k, hk, h5, h6⟩ := h2
  rcases Nat.lt_trichotomy i k with e | e | e
  · exact ⟨i, hi, fun j hj => (h3 j hj).trans (h5 j (by omega)), by have := h5 i e; omega⟩
  · subst e; exact ⟨i, hi, fun j hj => (h3 j hj).trans (h5 j hj), by omega⟩
  · exact ⟨k, by omega, fun j hj => (h3 j (by omega)).trans (h5 j hj), by have := h3 k e; omega⟩
noncomputable def pick (o : Option (List Int)) (x : List Int) : Option (List Int) :=
  match o with
  | none => some x
  | some b => bif B (Lex x b) then some x else some b
noncomputable def bestL (l : List (List Int)) : Option (List Int) := l.foldl pick none
theorem bestL_snoc (l : List (List Int)) (x : List Int) : bestL (l ++ [x]) = pick (bestL l) x := by
  unfold bestL
  rw [List.foldl_append]
  rfl
theorem pick_none (x : List Int) : pick none x = some x := rfl
theorem pick_yes {b x : List Int} (h : Lex x b) : pick (some b) x = some x := by unfold pick; simp only; rw [B_true h]; rfl
theorem pick_no {b x : List Int} (h : ¬ Lex x b) : pick (some b) x = some b := by unfold pick; simp only; rw [B_false h]; rfl
theorem best_from {N : Nat} : ∀ (l : List (List Int)) (m : List Int), m.length = N → (∀ x, x ∈ l → x.length = N) →
    ∃ m', l.foldl pick (some m) = some m' ∧ (m' = m ∨ m' ∈ l) ∧ ¬ Lex m m' ∧ ∀ x, x ∈ l → ¬ Lex x m'
  | [], m, _, _ => ⟨m, rfl, .inl rfl, lex_irr m, fun x hx => by cases hx⟩
  | y :: l, m, hm, hl => by
    have hy : y.length = N := hl y (by simp)
    have hl' : ∀ x, x ∈ l → x.length = N := fun x hx => hl x (by simp [hx])
    by_cases h : Lex y m
    · obtain ⟨m', h1, h2, h3, h4⟩ := best_from l y hy hl'
      refine ⟨m', by rw [List.foldl_cons, pick_yes h]; exact h1, .inr ?_, fun hh => h3 (lex_trans (by omega) h hh), fun x hx => ?_⟩
      · rcases h2 with h2 | h2
        · rw [h2]; simp
        · simp [h2]
      · rcases List.mem_cons.1 hx with e | e
        · subst e; exact h3
        · exact h4 x e
    · obtain ⟨m', h1, h2, h3, h4⟩ := best_from l m hm hl'
      have hm' : m'.length = N := by
        rcases h2 with h2 | h2
        · rw [h2]; exact hm
        · exact hl' m' h2
      refine ⟨m', by rw [List.foldl_cons, pick_no h]; exact h1, ?_, h3, fun x hx => ?_⟩
      · rcases h2 with h2 | h2
        · exact .inl h2
        · exact .inr (by simp [h2])
      · rcases List.mem_cons.1 hx with e | e
        · subst e
          intro hh
          by_cases h5 : Lex m' m
          · exact h (lex_trans (by omega) hh h5)
          · have e2 := lex_total (by omega) h5 h3
            rw [e2] at hh
            exact h hh
        · exact h4 x e
theorem best_some {N : Nat} {l : List (List Int)} (hl : ∀ x, x ∈ l → x.length = N) (h0 : l ≠ []) : ∃ m, bestL l = some m ∧ m ∈ l ∧ ∀ x, x ∈ l → ¬ Lex x m := by
  match l, h0 with
  | y :: l, _ =>
    obtain ⟨m, h1, h2, h3, h4⟩ := best_from l y (hl y (by simp)) (fun x hx => hl x (by simp [hx]))
    refine ⟨m, h1, ?_, fun x hx => ?_⟩
    · rcases h2 with h2 | h2
      · rw [h2]; simp
      · simp [h2]
    · rcases List.mem_cons.1 hx with e | e
      · subst e; exact h3
      · exact h4 x e
theorem best_same {N : Nat} {l l' : List (List Int)} (hl : ∀ x, x ∈ l → x.length = N) (h : ∀ x, x ∈ l ↔ x ∈ l') : bestL l = bestL l' := by
  by_cases h0 : l = []
  · subst h0
    have : l' = [] := List.eq_nil_iff_forall_not_mem.2 (fun x hx => by have := (h x).2 hx; cases this)
    rw [this]
  · have h0' : l' ≠ [] := fun e => by
      subst e
      exact h0 (List.eq_nil_iff_forall_not_mem.2 (fun x hx => by have := (h x).1 hx; cases this))
    have hl' : ∀ x, x ∈ l' → x.length = N := fun x hx => hl x ((h x).2 hx)
    obtain ⟨m, h1, h2, h3⟩ := best_some hl h0
    obtain ⟨m', h1', h2', h3'⟩ := best_some hl' h0'
    rw [h1, h1', lex_total (by rw [hl m h2, hl' m' h2']) (h3' m ((h m).1 h2)) (h3 m' ((h m').2 h2'))]

/-! ### the choices that have solutions, in the one order and in the other -/
noncomputable def okCh (ls : List Lk) (l : List (List Sp)) : List (List Sp) := l.filter (fun c => B (ChOk ls c))
theorem okCh_yes {ls : List Lk} {l : List (List Sp)} {c : List Sp} (h : ChOk ls c) : okCh ls (l ++ [c]) = okCh ls l ++ [c] := by
  unfold okCh
  rw [List.filter_append]
  simp [B_true h]
theorem okCh_no {ls : List Lk} {l : List (List Sp)} {c : List Sp} (h : ¬ ChOk ls c) : okCh ls (l ++ [c]) = okCh ls l := by
  unfold okCh
  rw [List.filter_append]
  simp [B_false h]
theorem mem_okCh {ls : List Lk} {l : List (List Sp)} {c : List Sp} : c ∈ okCh ls l ↔ c ∈ l ∧ ChOk ls c := by
  unfold okCh
  rw [List.mem_filter, B_iff]
def numCh (l : List (List Sp)) : Nat → List (List Sp)
  | 0 => []
  | k + 1 => numCh l k ++ [chN l k]
theorem mem_numCh {l : List (List Sp)} {c : List Sp} : ∀ k, c ∈ numCh l k ↔ ∃ i, i < k ∧ chN l i = c
  | 0 => by simp [numCh]
  | k + 1 => by
    rw [numCh, List.mem_append, mem_numCh k]
    constructor
    · rintro (⟨i, hi, e⟩ | h)
      · exact ⟨i, by omega, e⟩
      · exact ⟨k, by omega, (by simpa using h : c = chN l k).symm⟩
    · rintro ⟨i, hi, e⟩
      by_cases h : i = k
      · subst h; right; simp [e]
      · left; exact ⟨i, by omega, e⟩
theorem mem_both {l : List (List Sp)} {c : List Sp} : c ∈ numCh l (prodN l) ↔ c ∈ allCh l [] := by
  rw [mem_numCh, mem_allCh]
  constructor
  · rintro ⟨i, hi, e⟩
    exact ⟨c, by rw [← e]; exact chN_isCh l i hi, rfl⟩
  · rintro ⟨t, h1, e⟩
    obtain ⟨k, hk, e2⟩ := isCh_chN h1
    exact ⟨k, hk, by rw [e2, e]; rfl⟩
noncomputable def lows (ls : List Lk) (l : List (List Sp)) : List (List Int) := (okCh ls l).map (lowV ls)
theorem mem_allCh_len {l : List (List Sp)} {c : List Sp} (h : c ∈ allCh l []) : c.length = l.length := by
  obtain ⟨t, h1, e⟩ := mem_allCh.1 h
  rw [e]
  exact h1.len
theorem best_both (n : Net) : bestL (lows n.links (numCh n.sets (prodN n.sets))) = bestL (lows n.links (allCh n.sets [])) := by
  refine best_same (N := n.sets.length) (fun x hx => ?_) (fun x => ?_)
  · unfold lows at hx
    obtain ⟨c, hc, e⟩ := List.mem_map.1 hx
    rw [← e, lowV_len]
    exact mem_allCh_len (mem_both.1 (mem_okCh.1 hc).1)
  · unfold lows
    rw [List.mem_map, List.mem_map]
    constructor
    · rintro ⟨c, hc, e⟩
      exact ⟨c, mem_okCh.2 ⟨mem_both.1 (mem_okCh.1 hc).1, (mem_okCh.1 hc).2⟩, e⟩
    · rintro ⟨c, hc, e⟩
      exact ⟨c, mem_okCh.2 ⟨mem_both.2 (mem_okCh.1 hc).1, (mem_okCh.1 hc).2⟩, e⟩
theorem sol_okCh (n : Net) : Sol n ↔ okCh n.links (allCh n.sets []) ≠ [] := by
  rw [sol_all]
  constructor
  · rintro ⟨c, h1, h2⟩ e
    have := mem_okCh.2 ⟨h1, h2⟩
    rw [e] at this
    cases this
  · intro h
    match hh : okCh n.links (allCh n.sets []), h with
    | c :: r, _ =>
      have : c ∈ okCh n.links (allCh n.sets []) := by rw [hh]; simp
      exact ⟨c, (mem_okCh.1 this).1, (mem_okCh.1 this).2⟩
end Go.Proofs.YtfmnkojjkjkdeaaGreatDoor

/- How many choices there are where sets may be given up. Plain Lean. -/
namespace Go.Proofs.YtfmnkojjkjkdeaaGreatDoor
set_option linter.unusedVariables false
set_option linter.unusedSimpArgs false

def blP : List (List Sp) → Nat
  | [] => 1
  | s :: r => max 1 s.length * blP r
theorem blP_snoc : ∀ (l : List (List Sp)) (s : List Sp), blP (l ++ [s]) = blP l * max 1 s.length
  | [], s => by simp [blP]
  | t :: r, s => by
    show max 1 t.length * blP (r ++ [s]) = max 1 t.length * blP r * max 1 s.length
    rw [blP_snoc r s, Nat.mul_assoc]
def blTo (l : List (List Sp)) : Nat → Int
  | 0 => 1
  | k + 1 => min 257 (blTo l k * max 1 ((setAt l k).length : Int))
theorem blTo_bd (l : List (List Sp)) : ∀ k, 1 ≤ blTo l k ∧ blTo l k ≤ 257
  | 0 => by simp [blTo]
  | k + 1 => by
    have ih := blTo_bd l k
    have h1 : (1 : Int) ≤ max 1 ((setAt l k).length : Int) := Int.le_max_left _ _
    have h2 : 1 * 1 ≤ blTo l k * max 1 ((setAt l k).length : Int) := Int.mul_le_mul ih.1 h1 (by omega) (by omega)
    show 1 ≤ min 257 (blTo l k * max 1 ((setAt l k).length : Int)) ∧ min 257 (blTo l k * max 1 ((setAt l k).length : Int)) ≤ 257
    generalize blTo l k * max 1 ((setAt l k).length : Int) = q at *
    omega
theorem blTo_zero {l : List (List Sp)} {k : Nat} (h : (setAt l k).length = 0) : blTo l (k + 1) = blTo l k := by
  have ih := blTo_bd l k
  show min 257 (blTo l k * max 1 ((setAt l k).length : Int)) = _
  have e : max (1 : Int) ((0 : Nat) : Int) = 1 := by decide
  rw [h, e, Int.mul_one]
  omega
theorem blTo_pos {l : List (List Sp)} {k : Nat} (h : (setAt l k).length ≠ 0) : blTo l (k + 1) = min 257 (blTo l k * ((setAt l k).length : Int)) := by
  show min 257 (blTo l k * max 1 ((setAt l k).length : Int)) = _
  rw [Int.max_eq_right (by omega)]
theorem blTo_exact {l : List (List Sp)} : ∀ i, i ≤ l.length → blTo l i = min 257 (blP (l.take i) : Int)
  | 0, _ => by show (1 : Int) = min 257 1; decide
  | i + 1, hi => by
    have ih := blTo_exact (l := l) i (by omega)
    have e : l.take (i + 1) = l.take i ++ [setAt l i] := by
      rw [List.take_succ_eq_append_getElem (by omega)]
      unfold setAt
      rw [List.getD_eq_getElem?_getD, List.getElem?_eq_getElem (by omega)]
      rfl
    rw [e, blP_snoc]
    show min 257 (blTo l i * max 1 ((setAt l i).length : Int)) = _
    rw [ih]
    have h3 : (1 : Int) ≤ max 1 ((setAt l i).length : Int) := Int.le_max_left _ _
    have h6 : ((max 1 (setAt l i).length : Nat) : Int) = max 1 ((setAt l i).length : Int) := by omega
    rw [Int.natCast_mul, h6]
    generalize max 1 ((setAt l i).length : Int) = z at *
    generalize blP (l.take i) = q at *
    rcases Int.le_total 257 (q : Int) with hq | hq
    · rw [Int.min_eq_left hq]
      have h4 : (257 : Int) * 1 ≤ 257 * z := Int.mul_le_mul_of_nonneg_left h3 (by omega)
      have h5 : (257 : Int) * z ≤ (q : Int) * z := Int.mul_le_mul_of_nonneg_right hq (by omega)
      rw [Int.min_eq_left (by omega), Int.min_eq_left (by omega)]
    · rw [Int.min_eq_right hq]
def blN (n : Net) : Int := blTo n.sets n.sets.length
theorem blN_exact (n : Net) : blN n = min 257 (blP n.sets : Int) := by
  unfold blN
  rw [blTo_exact _ (Nat.le_refl _), List.take_length]
theorem prodN_le : ∀ {a b : List (List Sp)}, a.length = b.length → (∀ i, i < b.length → (setAt a i).length ≤ max 1 (setAt b i).length) → prodN a ≤ blP b
  | [], [], _, _ => Nat.le_refl _
  | s :: r, t :: q, hl, h => by
    have h0 : s.length ≤ max 1 t.length := h 0 (by simp)
    have h1 := prodN_le (a := r) (b := q) (by simpa using hl) (fun i hi => h (i + 1) (by simp; omega))
    show s.length * prodN r ≤ max 1 t.length * blP q
    exact Nat.mul_le_mul h0 h1
  | [], _ :: _, hl, _ => by simp at hl
  | _ :: _, [], hl, _ => by simp at hl
theorem choN_small {l : List (List Sp)} (h : prodN l ≤ 4096) : choN 4096 l = (prodN l : Int) := by
  refine choN_exact (m := 4096) ?_
  by_cases h0 : ∃ i, i < l.length ∧ (setAt l i).length = 0
  · obtain ⟨i, hi, e⟩ := h0
    have e2 : choN ((4096 : Nat) : Int) l = 0 := choN_zero hi e
    rw [e2]; omega
  · have h' : ∀ i, i < l.length → (setAt l i).length ≠ 0 := fun i hi e => h0 ⟨i, hi, e⟩
    rw [choN_prod h', prodTo_exact l.length (Nat.le_refl _) h', List.take_length]
    omega
/-- where not too many may be blamed, no network in which statements are given up has too many choices -/
theorem blame_few {n : Net} {is : Nat → Prop} (h : blN n ≤ 256) : prodN (giveN is n).sets ≤ 256 := by
  have h1 := blN_exact n
  have h2 : prodN (giveN is n).sets ≤ blP n.sets := by
    refine prodN_le (gvS_len _ _ _) (fun i hi => ?_)
    show (setAt (gvS is n.sets n.sets.length) i).length ≤ _
    rw [gvS_at is n.sets n.sets.length i hi]
    by_cases hp : is i
    · rw [B_true hp]; show 1 ≤ _; omega
    · rw [B_false hp]; show (setAt n.sets i).length ≤ _; omega
  omega
end Go.Proofs.YtfmnkojjkjkdeaaGreatDoor

/- Contracts: the codes of statements that may be blamed. -/
namespace Go.Proofs.YtfmnkojjkjkdeaaGreatDoor
set_option linter.unusedVariables false
set_option linter.unusedSimpArgs false
open Go.RowKit
attribute [local go_sem] cell_onto

noncomputable def blE (n : Net) (l : List Int) : Int := bif B (stmE n l = 0) then (bif B (blN n ≤ 256) then 0 else 3) else stmE n l
theorem blE_no {n : Net} {l : List Int} (h : stmE n l ≠ 0) : blE n l = stmE n l := by unfold blE; rw [B_false h]; rfl
theorem blE_big {n : Net} {l : List Int} (h : stmE n l = 0) (h2 : ¬ blN n ≤ 256) : blE n l = 3 := by unfold blE; rw [B_true h, B_false h2]; rfl
theorem blE_ok {n : Net} {l : List Int} (h : stmE n l = 0) (h2 : blN n ≤ 256) : blE n l = 0 := by unfold blE; rw [B_true h, B_true h2]; rfl
theorem stmE_zero {n : Net} {l : List Int} (h : stmE n l = 0) : NetOk n ∧ StmOk n l := by
  by_cases h1 : NetOk n
  · by_cases h2 : StmOk n l
    · exact ⟨h1, h2⟩
    · rw [stm_bad h1 h2] at h; omega
  · rw [stm_net h1] at h; omega
theorem blE_zero {n : Net} {l : List Int} (h : blE n l = 0) : NetOk n ∧ StmOk n l ∧ blN n ≤ 256 := by
  by_cases h1 : stmE n l = 0
  · by_cases h2 : blN n ≤ 256
    · exact ⟨(stmE_zero h1).1, (stmE_zero h1).2, h2⟩
    · rw [blE_big h1 h2] at h; omega
  · rw [blE_no h1] at h; exact absurd h h1
theorem bl_fit {l : List (List Sp)} (hf : SetsFit l) {j : Nat} (hj : j < l.length) : 0 ≤ blTo l j * ((setAt l j).length : Int) ∧ blTo l j * ((setAt l j).length : Int) ≤ 77100 := by
  have h1 := blTo_bd l j
  have h2 : ((setAt l j).length : Int) ≤ 300 := by have := hf j hj; omega
  refine ⟨Int.mul_nonneg (by omega) (by omega), ?_⟩
  have := Int.mul_le_mul (a := blTo l j) (b := ((setAt l j).length : Int)) (c := 257) (d := 300) (by omega) h2 (by omega) (by omega)
  omega
theorem bl_fit1 {l : List (List Sp)} (hf : SetsFit l) {j : Nat} (hj : j < l.length) : 0 ≤ blTo l j * (max 1 ((setAt l j).length : Int)) ∧ blTo l j * (max 1 ((setAt l j).length : Int)) ≤ 77100 := by
  have h1 := blTo_bd l j
  have h2 : ((setAt l j).length : Int) ≤ 300 := by have := hf j hj; omega
  have h3 : (1 : Int) ≤ max 1 ((setAt l j).length : Int) := Int.le_max_left _ _
  have h4 : max 1 ((setAt l j).length : Int) ≤ 300 := by omega
  refine ⟨Int.mul_nonneg (by omega) (by omega), ?_⟩
  have := Int.mul_le_mul (a := blTo l j) (b := max 1 ((setAt l j).length : Int)) (c := 257) (d := 300) (by omega) h4 (by omega) (by omega)
  omega

set_option maxHeartbeats 2000000 in
theorem impl_checkBlame (s k v : Value) (n : Net) (l : List Int) (w : World) (h : NetIn w s k n) (hl : Ints w 0 w.heap.size v l) :
    Calls Tryz.prog 56 #[.agg #[s, k], v] w (RetX (.int .i64 (blE n l)) w) := by
  obtain ⟨A, c, rfl, hn, hc⟩ := h.1.len
  obtain ⟨Al, cl, rfl, hnl, hcl⟩ := hl.len
  have H := Lib.hid h
  have Hl := Lib.hid hl
  clear h hl
  go_enter Tryz.func56, Tryz.ntmps56
  go_wp2_with fail
  refine Calls.mono (impl_checkStatements _ k _ n l _ (H.out.up (by repeat (first | exact Ext.refl _ | assumption | refine Ext.alloc ?_ _ | refine Ext.drew ?_ | refine Ext.drewN ?_ _ | refine Ext.setCell ?_ (by first | (simp; done) | (simp; omega) | omega) _ | refine Ext.trans ?_ (by assumption)))) (Hl.out.up (by repeat (first | exact Ext.refl _ | assumption | refine Ext.alloc ?_ _ | refine Ext.drew ?_ | refine Ext.drewN ?_ _ | refine Ext.setCell ?_ (by first | (simp; done) | (simp; omega) | omega) _ | refine Ext.trans ?_ (by assumption))))) ?_
  rintro e w1 ⟨rfl, hx1⟩
  have hb := (Boxed.new w [.slice A n.sets.length c, k] 27).ext hx1; have hb0 := hb.at0; have hb1 := hb.at1; have hbg := hb.1; have Hhb := Lib.hid hb; clear hb
  have hx : Ext w w1 := (by repeat (first | exact Ext.refl _ | assumption | refine Ext.alloc ?_ _ | refine Ext.drew ?_ | refine Ext.drewN ?_ _ | refine Ext.setCell ?_ (by first | (simp; done) | (simp; omega) | omega) _ | refine Ext.trans ?_ (by assumption)))
  clear hx1
  by_cases hs : stmE n l = 0
  · have Hs := Lib.hid hs
    have Hf := Lib.hid (SetsFit.of (stmE_zero hs).1)
    have hd : (stmE n l != 0) = false := by rw [hs]; rfl
    have Hbx : Hid (Boxed w1 w.heap.size [.slice A n.sets.length c, k]) := Lib.hid Hhb.out
    clear hs
    go_wp2_with fail
    go_loopg [6, 8, 18] n.sets.length (fun q t u8 i wr => ∃ j : Nat, j + q = n.sets.length ∧ i = .int .i64 j ∧ t = .int .i64 (blTo n.sets j) ∧ Ext w wr)
    case atStart => exact ⟨0, by omega, rfl, rfl, (by repeat (first | exact Ext.refl _ | assumption | refine Ext.alloc ?_ _ | refine Ext.drew ?_ | refine Ext.drewN ?_ _ | refine Ext.setCell ?_ (by first | (simp; done) | (simp; omega) | omega) _ | refine Ext.trans ?_ (by assumption)))⟩
    case round =>
      obtain ⟨j, hj, rfl, rfl, hxr⟩ := hrel
      by_cases hlt : j < n.sets.length
      · obtain ⟨b, off, u, rfl, _, hbl, h1, h2⟩ := (H.out.1.ext hxr (Nat.le_refl _)).at_ hlt
        obtain ⟨A2, c2, rfl, hn2, hc2⟩ := h2.len
        obtain ⟨p1, p2⟩ := bl_fit Hf.out hlt
        have p3 := blTo_bd n.sets j
        clear h2
        by_cases h0 : (setAt n.sets j).length = 0
        · have hd1 : decide (0 < ((setAt n.sets j).length : Int)) = false := decide_eq_false (by omega)
          have hd2 : decide (0 < (setAt n.sets j).length) = false := decide_eq_false (by omega)
          have H0 := Lib.hid (blTo_zero h0)
          go_wp2_with fail
          all_goals
            go_roundg (n.sets.length - (j + 1))
            case measure => omega
            case rel => exact ⟨j + 1, by omega, by go_num, by rw [H0.out], (by repeat (first | exact Ext.refl _ | assumption | refine Ext.alloc ?_ _ | refine Ext.drew ?_ | refine Ext.drewN ?_ _ | refine Ext.setCell ?_ (by first | (simp; done) | (simp; omega) | omega) _ | refine Ext.trans ?_ (by assumption)))⟩
        · have hd1 : decide (0 < ((setAt n.sets j).length : Int)) = true := decide_eq_true (by omega)
          have hd2 : decide (0 < (setAt n.sets j).length) = true := decide_eq_true (by omega)
          have H0 := Lib.hid (blTo_pos h0)
          go_wp2_with fail
          all_goals
            go_roundg (n.sets.length - (j + 1))
            case measure => omega
            case rel => exact ⟨j + 1, by omega, by go_num, by rw [H0.out]; congr 1; omega, (by repeat (first | exact Ext.refl _ | assumption | refine Ext.alloc ?_ _ | refine Ext.drew ?_ | refine Ext.drewN ?_ _ | refine Ext.setCell ?_ (by first | (simp; done) | (simp; omega) | omega) _ | refine Ext.trans ?_ (by assumption)))⟩
      · obtain rfl : j = n.sets.length := by omega
        have Hbn : Hid (blTo n.sets n.sets.length = blN n) := Lib.hid rfl
        rw [Hbn.out]
        by_cases hb : blN n ≤ 256
        · have T1 : decide (256 < blN n) = false := decide_eq_false (by omega)
          have Hb := Lib.hid hb
          clear hb
          go_wp2_with fail
          go_ret
          exact ⟨by rw [blE_ok Hs.out Hb.out]; rfl, (by repeat (first | exact Ext.refl _ | assumption | refine Ext.alloc ?_ _ | refine Ext.drew ?_ | refine Ext.drewN ?_ _ | refine Ext.setCell ?_ (by first | (simp; done) | (simp; omega) | omega) _ | refine Ext.trans ?_ (by assumption)))⟩
        · have T1 : decide (256 < blN n) = true := decide_eq_true (by omega)
          have Hb := Lib.hid hb
          clear hb
          go_wp2_with fail
          go_ret
          exact ⟨by rw [blE_big Hs.out (show ¬ blN n ≤ 256 by have := Hb.out; omega)]; rfl, (by repeat (first | exact Ext.refl _ | assumption | refine Ext.alloc ?_ _ | refine Ext.drew ?_ | refine Ext.drewN ?_ _ | refine Ext.setCell ?_ (by first | (simp; done) | (simp; omega) | omega) _ | refine Ext.trans ?_ (by assumption)))⟩
  · have Hs := Lib.hid hs
    have hd : (stmE n l != 0) = true := by simp [hs]
    clear hs
    go_wp2_with fail
    go_ret
    exact ⟨by rw [blE_no Hs.out]; rfl, (by repeat (first | exact Ext.refl _ | assumption | refine Ext.alloc ?_ _ | refine Ext.drew ?_ | refine Ext.drewN ?_ _ | refine Ext.setCell ?_ (by first | (simp; done) | (simp; omega) | omega) _ | refine Ext.trans ?_ (by assumption)))⟩

set_option maxHeartbeats 1000000 in
theorem spec_l21Most (s k : Value) (n : Net) (w : World) (h : NetIn w s k n) (hf : SetsFit n.sets) : Calls Tryz.prog 133 #[.agg #[s, k]] w (RetX (.int .i64 (blN n)) w) := by
  obtain ⟨A, c, rfl, hn, hc⟩ := h.1.len
  have H := Lib.hid h
  have Hf := Lib.hid hf
  clear h hf
  go_enter Tryz.func133, Tryz.ntmps133
  go_wp2_with fail
  go_loopg [3, 4] n.sets.length (fun m t i wr => ∃ j : Nat, j + m = n.sets.length ∧ i = .int .i64 j ∧ t = .int .i64 (blTo n.sets j) ∧ Ext w wr ∧ Boxed wr w.heap.size [.slice A n.sets.length c, k])
  case atStart => exact ⟨0, by omega, rfl, rfl, (by repeat (first | exact Ext.refl _ | assumption | refine Ext.alloc ?_ _ | refine Ext.drew ?_ | refine Ext.drewN ?_ _ | refine Ext.setCell ?_ (by first | (simp; done) | (simp; omega) | omega) _ | refine Ext.trans ?_ (by assumption))), Boxed.new w _ _⟩
  case round =>
    obtain ⟨j, hj, rfl, rfl, hx, hbb⟩ := hrel
    have hb := hbb; have hb0 := hb.at0; have hb1 := hb.at1; have hbg := hb.1; have Hhb := Lib.hid hb; clear hb
    clear hbb
    by_cases hlt : j < n.sets.length
    · obtain ⟨b, off, u, rfl, _, hbl, h1, h2⟩ := (H.out.1.ext hx (Nat.le_refl _)).at_ hlt
      obtain ⟨A2, c2, rfl, hn2, hc2⟩ := h2.len
      obtain ⟨p1, p2⟩ := bl_fit Hf.out hlt
      have p3 := blTo_bd n.sets j
      clear h2
      by_cases h0 : (setAt n.sets j).length ≤ 1
      · have H0 : Hid (blTo n.sets (j + 1) = blTo n.sets j) := Lib.hid (by
          by_cases e : (setAt n.sets j).length = 0
          · exact blTo_zero e
          · rw [blTo_pos e, show ((setAt n.sets j).length : Int) = 1 by omega, Int.mul_one]; omega)
        have T3 : ¬ 1 < (setAt n.sets j).length := by omega
        have T4 : ¬ (1 : Int) < ((setAt n.sets j).length : Int) := by omega
        go_wp2_with fail
        all_goals
          go_roundg (n.sets.length - (j + 1))
          case measure => omega
          case rel => exact ⟨j + 1, by omega, by go_num, by rw [H0.out] <;> first | rfl | (congr 1; first | omega | (unfold wrap64; omega) | (unfold wrap64; split <;> omega)), (by repeat (first | exact Ext.refl _ | assumption | refine Ext.alloc ?_ _ | refine Ext.drew ?_ | refine Ext.drewN ?_ _ | refine Ext.setCell ?_ (by first | (simp; done) | (simp; omega) | omega) _ | refine Ext.trans ?_ (by assumption))), Hhb.out⟩
      · have H0 := Lib.hid (blTo_pos (l := n.sets) (k := j) (by omega))
        have T3 : 1 < (setAt n.sets j).length := by omega
        have T4 : (1 : Int) < ((setAt n.sets j).length : Int) := by omega
        go_wp2_with fail
        all_goals
          go_roundg (n.sets.length - (j + 1))
          case measure => omega
          case rel => exact ⟨j + 1, by omega, by go_num, by rw [H0.out] <;> first | rfl | (congr 1; first | omega | (unfold wrap64; omega) | (unfold wrap64; split <;> omega)), (by repeat (first | exact Ext.refl _ | assumption | refine Ext.alloc ?_ _ | refine Ext.drew ?_ | refine Ext.drewN ?_ _ | refine Ext.setCell ?_ (by first | (simp; done) | (simp; omega) | omega) _ | refine Ext.trans ?_ (by assumption))), Hhb.out⟩
    · obtain rfl : j = n.sets.length := by omega
      go_wp2_with fail
      go_ret
      exact ⟨rfl, (by repeat (first | exact Ext.refl _ | assumption | refine Ext.alloc ?_ _ | refine Ext.drew ?_ | refine Ext.drewN ?_ _ | refine Ext.setCell ?_ (by first | (simp; done) | (simp; omega) | omega) _ | refine Ext.trans ?_ (by assumption)))⟩
set_option maxHeartbeats 1000000 in
theorem spec_l21Code (s k v : Value) (n : Net) (l : List Int) (w : World) (h : NetIn w s k n) (hl : Ints w 0 w.heap.size v l) :
    Calls Tryz.prog 59 #[.agg #[s, k], v] w (RetX (.int .i64 (blE n l)) w) := by
  obtain ⟨Al, cl, rfl, hnl, hcl⟩ := hl.len
  have H := Lib.hid h
  have Hl := Lib.hid hl
  clear h hl
  go_enter Tryz.func59, Tryz.ntmps59
  go_wp2_with fail
  refine Calls.mono (spec_IsNetwork _ k n _ (H.out.up (by repeat (first | exact Ext.refl _ | assumption | refine Ext.alloc ?_ _ | refine Ext.drew ?_ | refine Ext.drewN ?_ _ | refine Ext.setCell ?_ (by first | (simp; done) | (simp; omega) | omega) _ | refine Ext.trans ?_ (by assumption))))) ?_
  rintro e w1 ⟨rfl, hx1⟩
  have hb := (Boxed.new w [s, k] 27).ext hx1; have hb0 := hb.at0; have hb1 := hb.at1; have hbg := hb.1; have Hhb := Lib.hid hb; clear hb
  have hx : Ext w w1 := (by repeat (first | exact Ext.refl _ | assumption | refine Ext.alloc ?_ _ | refine Ext.drew ?_ | refine Ext.drewN ?_ _ | refine Ext.setCell ?_ (by first | (simp; done) | (simp; omega) | omega) _ | refine Ext.trans ?_ (by assumption)))
  have Hbx : Hid (Boxed w1 w.heap.size [s, k]) := Lib.hid Hhb.out
  clear hx1
  by_cases hok : NetOk n
  · have Hok := Lib.hid hok
    have hbt := B_true hok
    rw [hbt]
    clear hok hbt
    go_wp2_with fail
    refine Calls.mono (spec_l21List _ k _ n l _ (H.out.up (by repeat (first | exact Ext.refl _ | assumption | refine Ext.alloc ?_ _ | refine Ext.drew ?_ | refine Ext.drewN ?_ _ | refine Ext.setCell ?_ (by first | (simp; done) | (simp; omega) | omega) _ | refine Ext.trans ?_ (by assumption)))) (Hl.out.up (by repeat (first | exact Ext.refl _ | assumption | refine Ext.alloc ?_ _ | refine Ext.drew ?_ | refine Ext.drewN ?_ _ | refine Ext.setCell ?_ (by first | (simp; done) | (simp; omega) | omega) _ | refine Ext.trans ?_ (by assumption)))) Hok.out) ?_
    rintro e w2 ⟨rfl, hx2⟩
    have hxw2 : Ext w w2 := (by repeat (first | exact Ext.refl _ | assumption | refine Ext.alloc ?_ _ | refine Ext.drew ?_ | refine Ext.drewN ?_ _ | refine Ext.setCell ?_ (by first | (simp; done) | (simp; omega) | omega) _ | refine Ext.trans ?_ (by assumption)))
    have mb := Hbx.out.ext hx2; have mb0 := mb.at0; have mb1 := mb.at1; have mbg := mb.1; have Hmb := Lib.hid mb; clear mb
    clear hb0 hb1 hbg Hhb Hbx hx2
    by_cases hs : StmOk n l
    · have Hs := Lib.hid (stm_ok Hok.out hs)
      have hbt := B_true hs
      rw [hbt]
      clear hs hbt
      go_wp2_with fail
      refine Calls.mono (spec_l21Most _ k n _ (H.out.up (by repeat (first | exact Ext.refl _ | assumption | refine Ext.alloc ?_ _ | refine Ext.drew ?_ | refine Ext.drewN ?_ _ | refine Ext.setCell ?_ (by first | (simp; done) | (simp; omega) | omega) _ | refine Ext.trans ?_ (by assumption)))) (SetsFit.of Hok.out)) ?_
      rintro e w3 ⟨rfl, hx3⟩
      by_cases hb : blN n ≤ 256
      · have T1 : decide (256 < blN n) = false := decide_eq_false (by omega)
        have Hb := Lib.hid hb
        clear hb
        go_wp2_with fail
        go_ret
        exact ⟨by rw [blE_ok Hs.out Hb.out]; rfl, (by repeat (first | exact Ext.refl _ | assumption | refine Ext.alloc ?_ _ | refine Ext.drew ?_ | refine Ext.drewN ?_ _ | refine Ext.setCell ?_ (by first | (simp; done) | (simp; omega) | omega) _ | refine Ext.trans ?_ (by assumption)))⟩
      · have T1 : decide (256 < blN n) = true := decide_eq_true (by omega)
        have Hb := Lib.hid hb
        clear hb
        go_wp2_with fail
        go_ret
        exact ⟨by rw [blE_big Hs.out (show ¬ blN n ≤ 256 by have := Hb.out; omega)]; rfl, (by repeat (first | exact Ext.refl _ | assumption | refine Ext.alloc ?_ _ | refine Ext.drew ?_ | refine Ext.drewN ?_ _ | refine Ext.setCell ?_ (by first | (simp; done) | (simp; omega) | omega) _ | refine Ext.trans ?_ (by assumption)))⟩
    · have Hs := Lib.hid (stm_bad Hok.out hs)
      have hbt := B_false hs
      rw [hbt]
      clear hs hbt
      go_wp2_with fail
      go_ret
      exact ⟨by rw [blE_no (by rw [Hs.out]; omega), Hs.out]; rfl, (by repeat (first | exact Ext.refl _ | assumption | refine Ext.alloc ?_ _ | refine Ext.drew ?_ | refine Ext.drewN ?_ _ | refine Ext.setCell ?_ (by first | (simp; done) | (simp; omega) | omega) _ | refine Ext.trans ?_ (by assumption)))⟩
  · have Hs := Lib.hid (stm_net (l := l) hok)
    have hbt := B_false hok
    rw [hbt]
    clear hok hbt
    go_wp2_with fail
    go_ret
    exact ⟨by rw [blE_no (by rw [Hs.out]; omega), Hs.out]; rfl, (by repeat (first | exact Ext.refl _ | assumption | refine Ext.alloc ?_ _ | refine Ext.drew ?_ | refine Ext.drewN ?_ _ | refine Ext.setCell ?_ (by first | (simp; done) | (simp; omega) | omega) _ | refine Ext.trans ?_ (by assumption)))⟩
end Go.Proofs.YtfmnkojjkjkdeaaGreatDoor
