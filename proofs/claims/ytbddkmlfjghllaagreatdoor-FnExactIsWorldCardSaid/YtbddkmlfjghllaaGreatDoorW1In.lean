/- Spans put in order one by one, and made to a set. Plain Lean. -/
import Derived.Test.YtbddkmlfjghllaaGreatDoorW1Lib
namespace Go.Proofs.YtbddkmlfjghllaaGreatDoor
set_option linter.unusedVariables false
set_option linter.unusedSimpArgs false

def posS : List Sp → Int → Nat
  | [], _ => 0
  | t :: r, x => if t.fr ≤ x then posS r x + 1 else 0
def PosOk (l : List Sp) (x : Int) (p : Nat) : Prop := p ≤ l.length ∧ (∀ i, i < p → (spAt l i).fr ≤ x) ∧ (p < l.length → x < (spAt l p).fr)
theorem posS_eq : ∀ {l : List Sp} {x : Int} {p : Nat}, PosOk l x p → posS l x = p
  | [], _, p, h => by have := h.1; simp at this; subst this; rfl
  | t :: r, x, 0, h => by
    have := h.2.2 (by simp)
    show (if t.fr ≤ x then _ else _) = 0
    rw [if_neg (by have e : (spAt (t :: r) 0).fr = t.fr := rfl; omega)]
  | t :: r, x, p + 1, h => by
    have h0 : t.fr ≤ x := h.2.1 0 (by omega)
    show (if t.fr ≤ x then posS r x + 1 else 0) = p + 1
    rw [if_pos h0, posS_eq (l := r) (x := x) (p := p) ⟨by have := h.1; simp at this; omega, fun i hi => h.2.1 (i + 1) (by omega), fun hp => h.2.2 (by simp; omega)⟩]
theorem posS_ok : ∀ (l : List Sp) (x : Int), PosOk l x (posS l x)
  | [], _ => ⟨Nat.le_refl _, fun i hi => absurd hi (by simp [posS]), fun h => absurd h (by simp [posS])⟩
  | t :: r, x => by
    obtain ⟨h1, h2, h3⟩ := posS_ok r x
    unfold posS
    by_cases h : t.fr ≤ x
    · rw [if_pos h]
      refine ⟨by simp; omega, fun i hi => ?_, fun hp => h3 (by simp at hp; omega)⟩
      match i, hi with
      | 0, _ => exact h
      | i + 1, hi => exact h2 i (by omega)
    · rw [if_neg h]
      exact ⟨Nat.zero_le _, fun i hi => absurd hi (by omega), fun _ => by show x < t.fr; omega⟩
def SpBd' (s : Sp) : Prop := (-4611686018427387904 ≤ s.fr ∧ s.fr ≤ 4611686018427387904) ∧ (-4611686018427387904 ≤ s.to ∧ s.to ≤ 4611686018427387904)
def insS (l : List Sp) (s : Sp) : List Sp := l.take (posS l s.fr) ++ s :: l.drop (posS l s.fr)
theorem insS_len (l : List Sp) (s : Sp) : (insS l s).length = l.length + 1 := by
  have := (posS_ok l s.fr).1
  simp [insS]
  omega
theorem spAt_ins (l : List Sp) (s : Sp) (i : Nat) : spAt (insS l s) i = if i < posS l s.fr then spAt l i else if i = posS l s.fr then s else spAt l (i - 1) := by
  have hp := (posS_ok l s.fr).1
  unfold spAt insS
  rw [List.getD_eq_getElem?_getD, List.getD_eq_getElem?_getD, List.getD_eq_getElem?_getD]
  have ht : (l.take (posS l s.fr)).length = posS l s.fr := by rw [List.length_take]; omega
  by_cases h : i < posS l s.fr
  · rw [if_pos h, List.getElem?_append_left (by omega), List.getElem?_take, if_pos h]
  · rw [if_neg h, List.getElem?_append_right (by omega), ht]
    by_cases h2 : i = posS l s.fr
    · rw [if_pos h2, h2, Nat.sub_self]; rfl
    · rw [if_neg h2]
      obtain ⟨q, hq⟩ : ∃ q, i = posS l s.fr + 1 + q := ⟨i - (posS l s.fr + 1), by omega⟩
      rw [hq, show posS l s.fr + 1 + q - posS l s.fr = q + 1 by omega, List.getElem?_cons_succ, List.getElem?_drop, show posS l s.fr + 1 + q - 1 = posS l s.fr + q by omega]
theorem insS_sorted {l : List Sp} {s : Sp} (h : SortedF l) : SortedF (insS l s) := by
  obtain ⟨h1, h2, h3⟩ := posS_ok l s.fr
  intro i k hik hk
  rw [insS_len] at hk
  rw [spAt_ins, spAt_ins]
  by_cases c1 : k < posS l s.fr
  · rw [if_pos c1, if_pos (by omega)]
    exact h i k hik (by omega)
  · rw [if_neg c1]
    by_cases c2 : k = posS l s.fr
    · rw [if_pos c2, if_pos (by omega)]
      exact h2 i (by omega)
    · rw [if_neg c2]
      have hp : (spAt l (posS l s.fr)).fr ≤ (spAt l (k - 1)).fr := by
        by_cases e : posS l s.fr = k - 1
        · rw [e]; exact Int.le_refl _
        · exact h _ _ (by omega) (by omega)
      have hx := h3 (by omega)
      by_cases c3 : i < posS l s.fr
      · rw [if_pos c3]
        have := h2 i c3
        omega
      · rw [if_neg c3]
        by_cases c4 : i = posS l s.fr
        · rw [if_pos c4]; omega
        · rw [if_neg c4]
          exact h (i - 1) (k - 1) (by omega) (by omega)
theorem insS_all {l : List Sp} {s : Sp} {P : Sp → Prop} : (∀ i, i < l.length + 1 → P (spAt (insS l s) i)) ↔ (∀ i, i < l.length → P (spAt l i)) ∧ P s := by
  have hp := (posS_ok l s.fr).1
  constructor
  · intro h
    refine ⟨fun i hi => ?_, ?_⟩
    · by_cases c : i < posS l s.fr
      · have := h i (by omega); rwa [spAt_ins, if_pos c] at this
      · have := h (i + 1) (by omega)
        rwa [spAt_ins, if_neg (by omega), if_neg (by omega), Nat.add_sub_cancel] at this
    · have := h (posS l s.fr) (by omega)
      rwa [spAt_ins, if_neg (by omega), if_pos rfl] at this
  · rintro ⟨h1, h2⟩ i hi
    rw [spAt_ins]
    by_cases c : i < posS l s.fr
    · rw [if_pos c]; exact h1 i (by omega)
    · rw [if_neg c]
      by_cases c2 : i = posS l s.fr
      · rw [if_pos c2]; exact h2
      · rw [if_neg c2]; exact h1 (i - 1) (by omega)
theorem hasDay_ins {l : List Sp} {s : Sp} {d : Int} : HasDay (insS l s) d ↔ HasDay l d ∨ In s d := by
  have h := insS_all (l := l) (s := s) (P := fun t => ¬ In t d)
  constructor
  · rintro ⟨i, hi, hh⟩
    refine Classical.byContradiction fun hn => ?_
    have h1 : (∀ i, i < l.length → ¬ In (spAt l i) d) ∧ ¬ In s d := ⟨fun i hi hh => hn (.inl ⟨i, hi, hh⟩), fun hh => hn (.inr hh)⟩
    exact h.2 h1 i (by rw [insS_len] at hi; exact hi) hh
  · intro hh
    refine Classical.byContradiction fun hn => ?_
    have h1 := h.1 (fun i hi hi2 => hn ⟨i, by rw [insS_len]; exact hi, hi2⟩)
    rcases hh with ⟨i, hi, hh⟩ | hh
    · exact h1.1 i hi hh
    · exact h1.2 hh
def sortTo (l : List Sp) : Nat → List Sp
  | 0 => []
  | j + 1 => insS (sortTo l j) (spAt l j)
theorem sortTo_len (l : List Sp) : ∀ j, (sortTo l j).length = j
  | 0 => rfl
  | j + 1 => by show (insS _ _).length = _; rw [insS_len, sortTo_len l j]
theorem sortTo_sorted (l : List Sp) : ∀ j, SortedF (sortTo l j)
  | 0 => fun i k _ hk => absurd hk (by simp [sortTo])
  | j + 1 => insS_sorted (sortTo_sorted l j)
theorem sortTo_days (l : List Sp) {d : Int} : ∀ j, HasDay (sortTo l j) d ↔ ∃ i, i < j ∧ In (spAt l i) d
  | 0 => ⟨fun ⟨i, hi, _⟩ => absurd hi (by simp [sortTo]), fun ⟨i, hi, _⟩ => absurd hi (by omega)⟩
  | j + 1 => by
    show HasDay (insS _ _) d ↔ _
    rw [hasDay_ins, sortTo_days l j]
    constructor
    · rintro (⟨i, hi, hh⟩ | hh)
      · exact ⟨i, by omega, hh⟩
      · exact ⟨j, by omega, hh⟩
    · rintro ⟨i, hi, hh⟩
      by_cases e : i = j
      · subst e; exact .inr hh
      · exact .inl ⟨i, by omega, hh⟩
theorem sortTo_fromTo {l : List Sp} (h : FromTo l) : ∀ j, j ≤ l.length → FromTo (sortTo l j)
  | 0, _ => fun i hi => absurd hi (by simp [sortTo])
  | j + 1, hj => fun i hi => by
    have hi' : i < (sortTo l j).length + 1 := by rw [sortTo_len] at hi ⊢; omega
    exact (insS_all (P := fun t => t.fr ≤ t.to)).2 ⟨sortTo_fromTo h j (by omega), h j (by omega)⟩ i hi'
def mkL (l : List Sp) : List Sp := joinL (sortTo l l.length)
theorem mkL_ok {l : List Sp} (h : FromTo l) : Nf (mkL l) ∧ ∀ d, HasDay (mkL l) d ↔ HasDay l d := by
  obtain ⟨h1, h2⟩ := joinL_ok (sortTo_sorted l l.length) (sortTo_fromTo h l.length (Nat.le_refl _))
  exact ⟨h1, fun d => (h2 d).trans (sortTo_days l l.length)⟩
theorem mkL_len (l : List Sp) : (mkL l).length ≤ l.length := by
  have := joinTo_len (sortTo l l.length) (sortTo l l.length).length
  rw [sortTo_len] at this
  show (joinTo (sortTo l l.length) (sortTo l l.length).length).length ≤ _
  rw [sortTo_len]
  exact this
theorem joinS_all {out : List Sp} {s : Sp} {P : Int → Prop} (hm : ∀ a b, P a → P b → P (max a b)) (h : ∀ i, i < out.length → P (spAt out i).to) (hs : P s.to) : ∀ i, i < (joinS out s).length → P (spAt (joinS out s) i).to := by
  intro i hi
  unfold joinS at hi ⊢
  split at hi
  · rename_i hc
    rw [if_pos hc]
    have hi' : i < out.length := by simpa using hi
    rw [spAt_set]
    by_cases e : i = out.length - 1 ∧ i < out.length
    · rw [if_pos e]
      exact hm _ _ (h _ (by omega)) hs
    · rw [if_neg e]; exact h i hi'
  · rename_i hc
    rw [if_neg hc]
    have hi' : i < out.length + 1 := by simpa using hi
    rw [spAt_app hi']
    by_cases e : i = out.length
    · rw [if_pos e]; exact hs
    · rw [if_neg e]; exact h i (by omega)
theorem joinTo_all {l : List Sp} {P : Int → Prop} (hm : ∀ a b, P a → P b → P (max a b)) (h : ∀ i, i < l.length → P (spAt l i).to) : ∀ j, j ≤ l.length → ∀ i, i < (joinTo l j).length → P (spAt (joinTo l j) i).to
  | 0, _ => fun i hi => absurd hi (by simp [joinTo])
  | j + 1, hj => joinS_all hm (joinTo_all hm h j (by omega)) (h j (by omega))
theorem sortTo_all {l : List Sp} {P : Sp → Prop} (h : ∀ i, i < l.length → P (spAt l i)) : ∀ j, j ≤ l.length → ∀ i, i < j → P (spAt (sortTo l j) i)
  | 0, _ => fun i hi => absurd hi (by omega)
  | j + 1, hj => fun i hi => insS_all.2 ⟨fun i hi => sortTo_all h j (by omega) i (by rwa [sortTo_len] at hi), h j (by omega)⟩ i (by rw [sortTo_len]; exact hi)
/-- shifted: behind place k each is the one before -/
def ShOk (L M : List Sp) (k : Nat) : Prop := M.length = L.length ∧ ∀ i, i < L.length → spAt M i = if k < i then spAt L (i - 1) else spAt L i
theorem ShOk.start (L : List Sp) : ShOk L L (L.length - 1) := ⟨rfl, fun i hi => by rw [if_neg (by omega)]⟩
theorem ShOk.step {L M : List Sp} {k : Nat} (h : ShOk L M (k + 1)) (hk : k + 1 < L.length) : ShOk L (M.set (k + 1) (spAt M k)) k := by
  obtain ⟨h1, h2⟩ := h
  refine ⟨by rw [List.length_set, h1], fun i hi => ?_⟩
  rw [spAt_set]
  by_cases e : i = k + 1
  · rw [if_pos ⟨e, by omega⟩, h2 k (by omega), if_neg (by omega), if_pos (by omega), e]
    rfl
  · rw [if_neg (fun hh => e hh.1), h2 i hi]
    by_cases e2 : k + 1 < i
    · rw [if_pos e2, if_pos (by omega)]
    · rw [if_neg e2, if_neg (by omega)]
theorem list_extS {a b : List Sp} (hl : a.length = b.length) (h : ∀ i, i < a.length → spAt a i = spAt b i) : a = b := by
  refine List.ext_getElem hl (fun i h1 h2 => ?_)
  have := h i h1
  unfold spAt at this
  rw [List.getD_eq_getElem?_getD, List.getD_eq_getElem?_getD, List.getElem?_eq_getElem h1, List.getElem?_eq_getElem h2] at this
  exact this
theorem ShOk.done {l M : List Sp} {s z : Sp} (h : ShOk (l ++ [z]) M (posS l s.fr)) : M.set (posS l s.fr) s = insS l s := by
  obtain ⟨h1, h2⟩ := h
  have hp := (posS_ok l s.fr).1
  have hM : M.length = l.length + 1 := by rw [h1]; simp
  refine list_extS (by rw [List.length_set, insS_len, hM]) (fun i hi => ?_)
  rw [List.length_set, hM] at hi
  rw [spAt_set, spAt_ins]
  by_cases c : i = posS l s.fr
  · rw [if_pos ⟨c, by omega⟩, if_neg (by omega), if_pos c]
  · rw [if_neg (fun hh => c hh.1), h2 i (by simp; omega)]
    by_cases c2 : i < posS l s.fr
    · rw [if_neg (by omega), if_pos c2, spAt_app (by omega), if_neg (by omega)]
    · rw [if_pos (by omega), if_neg c2, if_neg c, spAt_app (by omega), if_neg (by omega)]
end Go.Proofs.YtbddkmlfjghllaaGreatDoor
