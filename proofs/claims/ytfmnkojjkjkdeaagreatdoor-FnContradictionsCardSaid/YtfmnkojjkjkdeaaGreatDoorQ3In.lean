/- Texts merged (a claim holds at most sixty files): In, Ye, Pa. -/
import Derived.Test.YtfmnkojjkjkdeaaGreatDoorQ3Lib
/- Spans put in order one by one, and made to a set. Plain Lean. -/
namespace Go.Proofs.YtfmnkojjkjkdeaaGreatDoor
set_option linter.unusedVariables false
set_option linter.unusedSimpArgs false

def posS : List Sp → Int → Nat
  | [], _ => 0
  | t :: r, x => if t.fr ≤ x then posS r x + 1 else 0
def PosOk (l : List Sp) (x : Int) (p : Nat) : Prop := p ≤ l.length ∧ (∀ i, i < p → (spAt l i).fr ≤ x) ∧ (p < l.length → x < (spAt l p).fr)
theorem posS_eq : ∀ {l : List Sp} {x : Int} {p : Nat}, PosOk l x p → posS l x = p
  | [], _, p, h => by have := h.1; simp at this; subst this; rfl
  | t :: r, x, 0, h => by
    have := h.2.2 (by simp)
    show (if t.fr ≤ x then _ else _) = 0
    rw [if_neg (by have e : (spAt (t :: r) 0).fr = t.fr := rfl; omega)]
  | t :: r, x, p + 1, h => by
    have h0 : t.fr ≤ x := h.2.1 0 (by omega)
    show (if t.fr ≤ x then posS r x + 1 else 0) = p + 1
    rw [if_pos h0, posS_eq (l := r) (x := x) (p := p) ⟨by have := h.1; simp at this; omega, fun i hi => h.2.1 (i + 1) (by omega), fun hp => h.2.2 (by simp; omega)⟩]
theorem posS_ok : ∀ (l : List Sp) (x : Int), PosOk l x (posS l x)
  | [], _ => ⟨Nat.le_refl _, fun i hi => absurd hi (by simp [posS]), fun h => absurd h (by simp [posS])⟩
  | t :: r, x => by
    obtain ⟨h1, h2, h3⟩ := posS_ok r x
    unfold posS
    by_cases h : t.fr ≤ x
    · rw [if_pos h]
      refine ⟨by simp; omega, fun i hi => ?_, fun hp => h3 (by simp at hp; omega)⟩
      match i, hi with
      | 0, _ => exact h
      | i + 1, hi => exact h2 i (by omega)
    · rw [if_neg h]
      exact ⟨Nat.zero_le _, fun i hi => absurd hi (by omega), fun _ => by show x < t.fr; omega⟩
def SpBd' (s : Sp) : Prop := (-4611686018427387904 ≤ s.fr ∧ s.fr ≤ 4611686018427387904) ∧ (-4611686018427387904 ≤ s.to ∧ s.to ≤ 4611686018427387904)
def insS (l : List Sp) (s : Sp) : List Sp := l.take (posS l s.fr) ++ s :: l.drop (posS l s.fr)
theorem insS_len (l : List Sp) (s : Sp) : (insS l s).length = l.length + 1 := by
  have := (posS_ok l s.fr).1
  simp [insS]
  omega
theorem spAt_ins (l : List Sp) (s : Sp) (i : Nat) : spAt (insS l s) i = if i < posS l s.fr then spAt l i else if i = posS l s.fr then s else spAt l (i - 1) := by
  have hp := (posS_ok l s.fr).1
  unfold spAt insS
  rw [List.getD_eq_getElem?_getD, List.getD_eq_getElem?_getD, List.getD_eq_getElem?_getD]
  have ht : (l.take (posS l s.fr)).length = posS l s.fr := by rw [List.length_take]; omega
  by_cases h : i < posS l s.fr
  · rw [if_pos h, List.getElem?_append_left (by omega), List.getElem?_take, if_pos h]
  · rw [if_neg h, List.getElem?_append_right (by omega), ht]
    by_cases h2 : i = posS l s.fr
    · rw [if_pos h2, h2, Nat.sub_self]; rfl
    · rw [if_neg h2]
      obtain ⟨q, hq⟩ : ∃ q, i = posS l s.fr + 1 + q := ⟨i - (posS l s.fr + 1), by omega⟩
      rw [hq, show posS l s.fr + 1 + q - posS l s.fr = q + 1 by omega, List.getElem?_cons_succ, List.getElem?_drop, show posS l s.fr + 1 + q - 1 = posS l s.fr + q by omega]
theorem insS_sorted {l : List Sp} {s : Sp} (h : SortedF l) : SortedF (insS l s) := by
  obtain ⟨h1, h2, h3⟩ := posS_ok l s.fr
  intro i k hik hk
  rw [insS_len] at hk
  rw [spAt_ins, spAt_ins]
  by_cases c1 : k < posS l s.fr
  · rw [if_pos c1, if_pos (by omega)]
    exact h i k hik (by omega)
  · rw [if_neg c1]
    by_cases c2 : k = posS l s.fr
    · rw [if_pos c2, if_pos (by omega)]
      exact h2 i (by omega)
    · rw [if_neg c2]
      have hp : (spAt l (posS l s.fr)).fr ≤ (spAt l (k - 1)).fr := by
        by_cases e : posS l s.fr = k - 1
        · rw [e]; exact Int.le_refl _
        · exact h _ _ (by omega) (by omega)
      have hx := h3 (by omega)
      by_cases c3 : i < posS l s.fr
      · rw [if_pos c3]
        have := h2 i c3
        omega
      · rw [if_neg c3]
        by_cases c4 : i = posS l s.fr
        · rw [if_pos c4]; omega
        · rw [if_neg c4]
          exact h (i - 1) (k - 1) (by omega) (by omega)
theorem insS_all {l : List Sp} {s : Sp} {P : Sp → Prop} : (∀ i, i < l.length + 1 → P (spAt (insS l s) i)) ↔ (∀ i, i < l.length → P (spAt l i)) ∧ P s := by
  have hp := (posS_ok l s.fr).1
  constructor
  · intro h
    refine ⟨fun i hi => ?_, ?_⟩
    · by_cases c : i < posS l s.fr
      · have := h i (by omega); rwa [spAt_ins, if_pos c] at this
      · have := h (i + 1) (by omega)
        rwa [spAt_ins, if_neg (by omega), if_neg (by omega), Nat.add_sub_cancel] at this
    · have := h (posS l s.fr) (by omega)
      rwa [spAt_ins, if_neg (by omega), if_pos rfl] at this
  · rintro ⟨h1, h2⟩ i hi
    rw [spAt_ins]
    by_cases c : i < posS l s.fr
    · rw [if_pos c]; exact h1 i (by omega)
    · rw [if_neg c]
      by_cases c2 : i = posS l s.fr
      · rw [if_pos c2]; exact h2
      · rw [if_neg c2]; exact h1 (i - 1) (by omega)
theorem hasDay_ins {l : List Sp} {s : Sp} {d : Int} : HasDay (insS l s) d ↔ HasDay l d ∨ In s d := by
  have h := insS_all (l := l) (s := s) (P := fun t => ¬ In t d)
  constructor
  · rintro ⟨i, hi, hh⟩
    refine Classical.byContradiction fun hn => ?_
    have h1 : (∀ i, i < l.length → ¬ In (spAt l i) d) ∧ ¬ In s d := ⟨fun i hi hh => hn (.inl ⟨i, hi, hh⟩), fun hh => hn (.inr hh)⟩
    exact h.2 h1 i (by rw [insS_len] at hi; exact hi) hh
  · intro hh
    refine Classical.byContradiction fun hn => ?_
    have h1 := h.1 (fun i hi hi2 => hn ⟨i, by rw [insS_len]; exact hi, hi2⟩)
    rcases hh with ⟨i, hi, hh⟩ | hh
    · exact h1.1 i hi hh
    · exact h1.2 hh
def sortTo (l : List Sp) : Nat → List Sp
  | 0 => []
  | j + 1 => insS (sortTo l j) (spAt l j)
theorem sortTo_len (l : List Sp) : ∀ j, (sortTo l j).length = j
  | 0 => rfl
  | j + 1 => by show (insS _ _).length = _; rw [insS_len, sortTo_len l j]
theorem sortTo_sorted (l : List Sp) : ∀ j, SortedF (sortTo l j)
  | 0 => fun i k _ hk => absurd hk (by simp [sortTo])
  | j + 1 => insS_sorted (sortTo_sorted l j)
theorem sortTo_days (l : List Sp) {d : Int} : ∀ j, HasDay (sortTo l j) d ↔ ∃ i, i < j ∧ In (spAt l i) d
  | 0 => ⟨fun ⟨i, hi, _⟩ => absurd hi (by simp [sortTo]), fun ⟨i, hi, _⟩ => absurd hi (by omega)⟩
  | j + 1 => by
    show HasDay (insS _ _) d ↔ _
    rw [hasDay_ins, sortTo_days l j]
    constructor
    · rintro (⟨i, hi, hh⟩ | hh)
      · exact ⟨i, by omega, hh⟩
      · exact ⟨j, by omega, hh⟩
    · rintro ⟨i, hi, hh⟩
      by_cases e : i = j
      · subst e; exact .inr hh
      · exact .inl ⟨i, by omega, hh⟩
theorem sortTo_fromTo {l : List Sp} (h : FromTo l) : ∀ j, j ≤ l.length → FromTo (sortTo l j)
  | 0, _ => fun i hi => absurd hi (by simp [sortTo])
  | j + 1, hj => fun i hi => by
    have hi' : i < (sortTo l j).length + 1 := by rw [sortTo_len] at hi ⊢; omega
    exact (insS_all (P := fun t => t.fr ≤ t.to)).2 ⟨sortTo_fromTo h j (by omega), h j (by omega)⟩ i hi'
def mkL (l : List Sp) : List Sp := joinL (sortTo l l.length)
theorem mkL_ok {l : List Sp} (h : FromTo l) : Nf (mkL l) ∧ ∀ d, HasDay (mkL l) d ↔ HasDay l d := by
  obtain ⟨h1, h2⟩ := joinL_ok (sortTo_sorted l l.length) (sortTo_fromTo h l.length (Nat.le_refl _))
  exact ⟨h1, fun d => (h2 d).trans (sortTo_days l l.length)⟩
theorem mkL_len (l : List Sp) : (mkL l).length ≤ l.length := by
  have := joinTo_len (sortTo l l.length) (sortTo l l.length).length
  rw [sortTo_len] at this
  show (joinTo (sortTo l l.length) (sortTo l l.length).length).length ≤ _
  rw [sortTo_len]
  exact this
theorem joinS_all {out : List Sp} {s : Sp} {P : Int → Prop} (hm : ∀ a b, P a → P b → P (max a b)) (h : ∀ i, i < out.length → P (spAt out i).to) (hs : P s.to) : ∀ i, i < (joinS out s).length → P (spAt (joinS out s) i).to := by
  intro i hi
  unfold joinS at hi ⊢
  split at hi
  · rename_i hc
    rw [if_pos hc]
    have hi' : i < out.length := by simpa using hi
    rw [spAt_set]
    by_cases e : i = out.length - 1 ∧ i < out.length
    · rw [if_pos e]
      exact hm _ _ (h _ (by omega)) hs
    · rw [if_neg e]; exact h i hi'
  · rename_i hc
    rw [if_neg hc]
    have hi' : i < out.length + 1 := by simpa using hi
    rw [spAt_app hi']
    by_cases e : i = out.length
    · rw [if_pos e]; exact hs
    · rw [if_neg e]; exact h i (by omega)
theorem joinTo_all {l : List Sp} {P : Int → Prop} (hm : ∀ a b, P a → P b → P (max a b)) (h : ∀ i, i < l.length → P (spAt l i).to) : ∀ j, j ≤ l.length → ∀ i, i < (joinTo l j).length → P (spAt (joinTo l j) i).to
  | 0, _ => fun i hi => absurd hi (by simp [joinTo])
  | j + 1, hj => joinS_all hm (joinTo_all hm h j (by omega)) (h j (by omega))
theorem sortTo_all {l : List Sp} {P : Sp → Prop} (h : ∀ i, i < l.length → P (spAt l i)) : ∀ j, j ≤ l.length → ∀ i, i < j → P (spAt (sortTo l j) i)
  | 0, _ => fun i hi => absurd hi (by omega)
  | j + 1, hj => fun i hi => insS_all.2 ⟨fun i hi => sortTo_all h j (by omega) i (by rwa [sortTo_len] at hi), h j (by omega)⟩ i (by rw [sortTo_len]; exact hi)
/-- shifted: behind place k each is the one before -/
def ShOk (L M : List Sp) (k : Nat) : Prop := M.length = L.length ∧ ∀ i, i < L.length → spAt M i = if k < i then spAt L (i - 1) else spAt L i
theorem ShOk.start (L : List Sp) : ShOk L L (L.length - 1) := ⟨rfl, fun i hi => by rw [if_neg (by omega)]⟩
theorem ShOk.step {L M : List Sp} {k : Nat} (h : ShOk L M (k + 1)) (hk : k + 1 < L.length) : ShOk L (M.set (k + 1) (spAt M k)) k := by
  obtain ⟨h1, h2⟩ := h
  refine ⟨by rw [List.length_set, h1], fun i hi => ?_⟩
  rw [spAt_set]
  by_cases e : i = k + 1
  · rw [if_pos ⟨e, by omega⟩, h2 k (by omega), if_neg (by omega), if_pos (by omega), e]
    rfl
  · rw [if_neg (fun hh => e hh.1), h2 i hi]
    by_cases e2 : k + 1 < i
    · rw [if_pos e2, if_pos (by omega)]
    · rw [if_neg e2, if_neg (by omega)]
theorem list_extS {a b : List Sp} (hl : a.length = b.length) (h : ∀ i, i < a.length → spAt a i = spAt b i) : a = b := by
  refine List.ext_getElem hl (fun i h1 h2 => ?_)
  have := h i h1
  unfold spAt at this
  rw [List.getD_eq_getElem?_getD, List.getD_eq_getElem?_getD, List.getElem?_eq_getElem h1, List.getElem?_eq_getElem h2] at this
  exact this
theorem ShOk.done {l M : List Sp} {s z : Sp} (h : ShOk (l ++ [z]) M (posS l s.fr)) : M.set (posS l s.fr) s = insS l s := by
  obtain ⟨h1, h2⟩ := h
  have hp := (posS_ok l s.fr).1
  have hM : M.length = l.length + 1 := by rw [h1]; simp
  refine list_extS (by rw [List.length_set, insS_len, hM]) (fun i hi => ?_)
  rw [List.length_set, hM] at hi
  rw [spAt_set, spAt_ins]
  by_cases c : i = posS l s.fr
  · rw [if_pos ⟨c, by omega⟩, if_neg (by omega), if_pos c]
  · rw [if_neg (fun hh => c hh.1), h2 i (by simp; omega)]
    by_cases c2 : i < posS l s.fr
    · rw [if_neg (by omega), if_pos c2, spAt_app (by omega), if_neg (by omega)]
    · rw [if_pos (by omega), if_neg c2, if_neg c, spAt_app (by omega), if_neg (by omega)]
end Go.Proofs.YtfmnkojjkjkdeaaGreatDoor

/- Plain: a list of whole numbers without its first. -/
namespace Go.Proofs.YtfmnkojjkjkdeaaGreatDoor
set_option linter.unusedVariables false
set_option linter.unusedSimpArgs false
open Go.RowKit

theorem inAt_tail (l : List Int) (i : Nat) : inAt l.tail i = inAt l (i + 1) := by
  unfold inAt
  cases l <;> simp [List.getD]
theorem Ints.cap_le {w : World} {lo hi : Nat} {A : Option Addr} {n c : Nat} {l : List Int} (h : Ints w lo hi (.slice A n c) l) : l.length ≤ c := by
  obtain ⟨hm, A', c', e, hc, hr⟩ := h
  injection e with e1 e2 e3
  omega
theorem Ints.tail {w : World} {lo hi : Nat} {A : Option Addr} {n c b off : Nat} {l : List Int} (h : Ints w lo hi (.slice A n c) l) (hA : A = some ⟨b, off, none⟩) (h0 : 0 < l.length) : Ints w lo hi (.slice (some ⟨b, off + 1, none⟩) (l.length - 1) (c - 1)) l.tail := by
  subst hA
  obtain ⟨hm, A', c', e, hc, hr⟩ := h
  injection e with e1 e2 e3
  subst e3
  obtain ⟨b', off', e4, h1, h2, h3⟩ := hr h0
  rw [← e1] at e4
  injection e4 with e4
  injection e4 with e5 e6
  subst e5 e6
  have hl : l.tail.length = l.length - 1 := by simp
  unfold Ints
  rw [hl]
  refine ⟨by omega, _, _, rfl, by omega, fun _ => ⟨b, off + 1, rfl, h1, h2, fun i hi => ?_⟩⟩
  have := h3 (i + 1) (by omega)
  rw [show off + (i + 1) = off + 1 + i by omega] at this
  rw [this]
  unfold intCell
  rw [inAt_tail]
/-- .. as Go cuts it: where nothing is left of the room the place stays -/
theorem Ints.tail2 {w : World} {lo hi : Nat} {A : Option Addr} {n c b off : Nat} {l : List Int} (h : Ints w lo hi (.slice A n c) l) (hA : A = some ⟨b, off, none⟩) (h0 : 0 < l.length) :
    Ints w lo hi (.slice (if c = 1 then some ⟨b, off, none⟩ else some ⟨b, off + 1, none⟩) (l.length - 1) (c - 1)) l.tail := by
  by_cases hc : c = 1
  · rw [if_pos hc]
    have h1 := h.cap_le
    have hl : l.tail.length = l.length - 1 := by simp
    unfold Ints
    rw [hl]
    exact ⟨by have := h.1; omega, _, _, rfl, by omega, fun hh => by omega⟩
  · rw [if_neg hc]
    exact h.tail hA h0
end Go.Proofs.YtfmnkojjkjkdeaaGreatDoor

/- Plain: the days of one variable of a link that have a partner. -/
namespace Go.Proofs.YtfmnkojjkjkdeaaGreatDoor
set_option linter.unusedVariables false
set_option linter.unusedSimpArgs false

/-- a set in normal form, of days -/
def SetD (l : List Sp) : Prop := Nf l ∧ ∀ i, i < l.length → DayOk (spAt l i).fr ∧ DayOk (spAt l i).to
theorem SetOk.d {l : List Sp} (h : SetOk l) : SetD l := ⟨h.nf, fun i hi => ⟨(h.2 i hi).1.1, (h.2 i hi).1.2.1⟩⟩
theorem SetD.ok {l : List Sp} (h : SetD l) (hl : l.length ≤ 300) : SetOk l := ⟨hl, fun i hi => ⟨⟨(h.2 i hi).1, (h.2 i hi).2, (h.1 i hi).1⟩, (h.1 i hi).2⟩⟩
theorem setOk_iff {l : List Sp} (h : SetD l) : SetOk l ↔ l.length ≤ 300 := ⟨fun hh => hh.1, h.ok⟩
theorem SetD.fromTo {l : List Sp} (h : SetD l) : FromTo l := fun i hi => (h.1 i hi).1
theorem SetD.fr {l : List Sp} (h : SetD l) : ∀ i, i < l.length → 2 * (i : Int) ≤ (spAt l i).fr
  | 0, hi => by have := (h.2 0 hi).1.1; omega
  | i + 1, hi => by
    have h1 := SetD.fr h i (by omega)
    have h2 := (h.1 (i + 1) hi).2 (by omega)
    have h3 := (h.1 i (by omega)).1
    rw [show i + 1 - 1 = i by omega] at h2
    omega
theorem SetD.len {l : List Sp} (h : SetD l) : l.length ≤ 365250 := by
  rcases Nat.eq_zero_or_pos l.length with h0 | h0
  · omega
  · have h1 := h.fr (l.length - 1) (by omega)
    have h2 := (h.2 (l.length - 1) (by omega)).1.2
    omega
theorem SetD.day {l : List Sp} (h : SetD l) {d : Int} (hd : HasDay l d) : DayOk d := by
  obtain ⟨i, hi, h1, h2⟩ := hd
  obtain ⟨⟨a, b⟩, ⟨c, e⟩⟩ := h.2 i hi
  exact ⟨by omega, by omega⟩
theorem setD_of {l : List Sp} (h : Nf l) (hd : ∀ d, HasDay l d → DayOk d) : SetD l := ⟨h, fun i hi => ⟨hd _ ⟨i, hi, Int.le_refl _, (h i hi).1⟩, hd _ ⟨i, hi, (h i hi).1, Int.le_refl _⟩⟩⟩
theorem SetD.bd {l : List Sp} (h : SetD l) : ∀ i, i < l.length → SpBd' (spAt l i) := fun i hi => by
  obtain ⟨⟨a, b⟩, ⟨c, e⟩⟩ := h.2 i hi
  exact ⟨⟨by omega, by omega⟩, ⟨by omega, by omega⟩⟩
/-- what is made of spans lies where they lie -/
theorem mkL_bd {l : List Sp} {a b : Int} (hf : FromTo l) (h : ∀ i, i < l.length → a ≤ (spAt l i).fr ∧ (spAt l i).to ≤ b) : ∀ i, i < (mkL l).length → a ≤ (spAt (mkL l) i).fr ∧ (spAt (mkL l) i).to ≤ b := fun i hi => by
  obtain ⟨h1, h2⟩ := mkL_ok hf
  have h3 := (h1 i hi).1
  obtain ⟨k, hk, x1, x2⟩ := (h2 _).1 ⟨i, hi, Int.le_refl _, h3⟩
  obtain ⟨m, hm, y1, y2⟩ := (h2 _).1 ⟨i, hi, h3, Int.le_refl _⟩
  have := h k hk
  have := h m hm
  omega

/-! ### spans that are reached -/
def shS (lo hi : Int) (s : Sp) : Sp := ⟨s.fr + lo, s.to + hi⟩
def shTo (lo hi : Int) (l : List Sp) : Nat → List Sp
  | 0 => []
  | j + 1 => shTo lo hi l j ++ [shS lo hi (spAt l j)]
theorem shTo_len (lo hi : Int) (l : List Sp) : ∀ j, (shTo lo hi l j).length = j
  | 0 => rfl
  | j + 1 => by rw [shTo, List.length_append, shTo_len lo hi l j]; rfl
theorem spAt_shTo (lo hi : Int) (l : List Sp) : ∀ j i, i < j → spAt (shTo lo hi l j) i = shS lo hi (spAt l i)
  | 0, _, h => absurd h (by omega)
  | j + 1, i, h => by
    rw [shTo, spAt_app (by rw [shTo_len]; omega), shTo_len]
    by_cases e : i = j
    · subst e; rw [if_pos rfl]
    · rw [if_neg e, spAt_shTo lo hi l j i (by omega)]
def clS (lo hi : Int) (s : Sp) : Sp := ⟨max 0 (s.fr + lo), min 730499 (s.to + hi)⟩
def clOut (lo hi : Int) (s : Sp) (out : List Sp) : List Sp := if (clS lo hi s).fr ≤ (clS lo hi s).to then out ++ [clS lo hi s] else out
def clTo (lo hi : Int) (l : List Sp) : Nat → List Sp
  | 0 => []
  | j + 1 => clOut lo hi (spAt l j) (clTo lo hi l j)
theorem clOut_len (lo hi : Int) (s : Sp) (out : List Sp) : (clOut lo hi s out).length ≤ out.length + 1 := by
  unfold clOut
  split <;> simp
theorem clTo_len (lo hi : Int) (l : List Sp) : ∀ j, (clTo lo hi l j).length ≤ j
  | 0 => by simp [clTo]
  | j + 1 => by
    have h1 := clTo_len lo hi l j
    have h2 := clOut_len lo hi (spAt l j) (clTo lo hi l j)
    show (clOut lo hi (spAt l j) (clTo lo hi l j)).length ≤ _
    omega
theorem clTo_all (lo hi : Int) (l : List Sp) : ∀ j i, i < (clTo lo hi l j).length → (spAt (clTo lo hi l j) i).fr ≤ (spAt (clTo lo hi l j) i).to ∧ DayOk (spAt (clTo lo hi l j) i).fr ∧ DayOk (spAt (clTo lo hi l j) i).to
  | 0, i, h => absurd h (by simp [clTo])
  | j + 1, i, h => by
    have ih := clTo_all lo hi l j
    have e : clTo lo hi l (j + 1) = clOut lo hi (spAt l j) (clTo lo hi l j) := rfl
    rw [e] at h ⊢
    unfold clOut at h ⊢
    split at h
    · rename_i hc
      rw [if_pos hc]
      have h' : i < (clTo lo hi l j).length + 1 := by simpa using h
      rw [spAt_app h']
      by_cases e2 : i = (clTo lo hi l j).length
      · rw [if_pos e2]
        have hc' : max 0 ((spAt l j).fr + lo) ≤ min 730499 ((spAt l j).to + hi) := hc
        refine ⟨hc, ⟨?_, ?_⟩, ⟨?_, ?_⟩⟩
        · show 0 ≤ max 0 ((spAt l j).fr + lo); omega
        · show max 0 ((spAt l j).fr + lo) ≤ 730499; omega
        · show 0 ≤ min 730499 ((spAt l j).to + hi); omega
        · show min 730499 ((spAt l j).to + hi) ≤ 730499; omega
      · rw [if_neg e2]
        exact ih i (by omega)
    · rename_i hc
      rw [if_neg hc]
      exact ih i h
theorem clTo_days (lo hi : Int) (l : List Sp) (d : Int) : ∀ j, HasDay (clTo lo hi l j) d ↔ ∃ i, i < j ∧ In (clS lo hi (spAt l i)) d
  | 0 => ⟨fun ⟨i, hi, _⟩ => absurd hi (by simp [clTo]), fun ⟨i, hi, _⟩ => absurd hi (by omega)⟩
  | j + 1 => by
    have ih := clTo_days lo hi l d j
    have e : clTo lo hi l (j + 1) = clOut lo hi (spAt l j) (clTo lo hi l j) := rfl
    have key : HasDay (clTo lo hi l (j + 1)) d ↔ HasDay (clTo lo hi l j) d ∨ In (clS lo hi (spAt l j)) d := by
      rw [e]
      unfold clOut
      split
      · exact hasDay_app
      · rename_i hc
        exact ⟨.inl, fun h => h.elim id (fun ⟨h1, h2⟩ => absurd (show (clS lo hi (spAt l j)).fr ≤ (clS lo hi (spAt l j)).to by omega) hc)⟩
    rw [key, ih]
    constructor
    · rintro (⟨i, h1, h2⟩ | h)
      · exact ⟨i, by omega, h2⟩
      · exact ⟨j, by omega, h⟩
    · rintro ⟨i, h1, h2⟩
      by_cases e2 : i = j
      · subst e2; exact .inr h2
      · exact .inl ⟨i, by omega, h2⟩
theorem shTo_days (lo hi : Int) (l : List Sp) (d : Int) : HasDay (shTo lo hi l l.length) d ↔ ∃ i, i < l.length ∧ In (shS lo hi (spAt l i)) d := by
  constructor
  · rintro ⟨i, h1, h2, h3⟩
    rw [shTo_len] at h1
    rw [spAt_shTo lo hi l _ i h1] at h2 h3
    exact ⟨i, h1, h2, h3⟩
  · rintro ⟨i, h1, h2, h3⟩
    exact ⟨i, by rw [shTo_len]; exact h1, by rw [spAt_shTo lo hi l _ i h1]; exact h2, by rw [spAt_shTo lo hi l _ i h1]; exact h3⟩
theorem shTo_fromTo {lo hi : Int} {l : List Sp} (hl : lo ≤ hi) (h : FromTo l) : FromTo (shTo lo hi l l.length) := fun i hi' => by
  rw [shTo_len] at hi'
  rw [spAt_shTo lo hi l _ i hi']
  have := h i hi'
  show (spAt l i).fr + lo ≤ (spAt l i).to + hi
  omega
theorem clTo_fromTo (lo hi : Int) (l : List Sp) : FromTo (clTo lo hi l l.length) := fun i hi' => (clTo_all lo hi l _ i hi').1
/-- the days of own that have a partner among other's -/
def partL (lo hi : Int) (own other : List Sp) : List Sp := metL own (mkL (shTo lo hi other other.length))
theorem partL_ok {lo hi : Int} {own other : List Sp} (h1 : SetD own) (h2 : FromTo other) (hl : lo ≤ hi) : SetD (partL lo hi own other) ∧ ∀ d, HasDay (partL lo hi own other) d ↔ HasDay own d ∧ ∃ e, HasDay other e ∧ lo ≤ d - e ∧ d - e ≤ hi := by
  obtain ⟨m1, m2⟩ := mkL_ok (shTo_fromTo hl h2)
  obtain ⟨n1, n2⟩ := metL_ok h1.1 m1
  have key : ∀ d, HasDay (partL lo hi own other) d ↔ HasDay own d ∧ ∃ e, HasDay other e ∧ lo ≤ d - e ∧ d - e ≤ hi := fun d => by
    show HasDay (metL own (mkL (shTo lo hi other other.length))) d ↔ _
    rw [n2, m2, shTo_days]
    refine and_congr Iff.rfl ⟨?_, ?_⟩
    · rintro ⟨i, hi', x1, x2⟩
      have x1' : (spAt other i).fr + lo ≤ d := x1
      have x2' : d ≤ (spAt other i).to + hi := x2
      have hf := h2 i hi'
      by_cases hc : d - lo ≤ (spAt other i).to
      · exact ⟨d - lo, ⟨i, hi', by omega, by omega⟩, by omega, by omega⟩
      · exact ⟨(spAt other i).to, ⟨i, hi', by omega, by omega⟩, by omega, by omega⟩
    · rintro ⟨e, ⟨i, hi', x1, x2⟩, x3, x4⟩
      exact ⟨i, hi', by show (spAt other i).fr + lo ≤ d; omega, by show d ≤ (spAt other i).to + hi; omega⟩
  exact ⟨setD_of n1 (fun d hd => h1.day ((key d).1 hd).1), key⟩
theorem part_eq {lo hi : Int} {own other : List Sp} (h1 : SetD own) (h2 : FromTo other) (hl : lo ≤ hi) : metL own (mkL (clTo lo hi other other.length)) = partL lo hi own other := by
  obtain ⟨m1, m2⟩ := mkL_ok (clTo_fromTo lo hi other)
  obtain ⟨n1, n2⟩ := metL_ok h1.1 m1
  obtain ⟨p1, p2⟩ := mkL_ok (shTo_fromTo hl h2)
  obtain ⟨q1, q2⟩ := metL_ok h1.1 p1
  refine n1.eq q1 (fun d => ?_)
  show _ ↔ HasDay (metL own (mkL (shTo lo hi other other.length))) d
  rw [n2, q2, m2, p2, clTo_days, shTo_days]
  refine and_congr_right (fun hd => ?_)
  have hdd := h1.day hd
  constructor
  · rintro ⟨i, hi', x1, x2⟩
    have x1' : max 0 ((spAt other i).fr + lo) ≤ d := x1
    have x2' : d ≤ min 730499 ((spAt other i).to + hi) := x2
    exact ⟨i, hi', by show (spAt other i).fr + lo ≤ d; omega, by show d ≤ (spAt other i).to + hi; omega⟩
  · rintro ⟨i, hi', x1, x2⟩
    have x1' : (spAt other i).fr + lo ≤ d := x1
    have x2' : d ≤ (spAt other i).to + hi := x2
    obtain ⟨d1, d2⟩ := hdd
    exact ⟨i, hi', by show max 0 ((spAt other i).fr + lo) ≤ d; omega, by show d ≤ min 730499 ((spAt other i).to + hi); omega⟩
theorem shTo_bd {lo hi : Int} {l : List Sp} (h : SetD l) (h1 : -730499 ≤ lo) (h2 : lo ≤ 730499) (h3 : -730499 ≤ hi) (h4 : hi ≤ 730499) : ∀ i, i < (shTo lo hi l l.length).length → -1460998 ≤ (spAt (shTo lo hi l l.length) i).fr ∧ (spAt (shTo lo hi l l.length) i).to ≤ 1460998 := fun i hi' => by
  rw [shTo_len] at hi'
  rw [spAt_shTo lo hi l _ i hi']
  obtain ⟨⟨a, b⟩, ⟨c, e⟩⟩ := h.2 i hi'
  exact ⟨by show -1460998 ≤ (spAt l i).fr + lo; omega, by show (spAt l i).to + hi ≤ 1460998; omega⟩
theorem sp_bd {l : List Sp} {a b : Int} (hf : FromTo l) (h : ∀ i, i < l.length → a ≤ (spAt l i).fr ∧ (spAt l i).to ≤ b) (ha : -4611686018427387904 ≤ a) (hb : b ≤ 4611686018427387904) : ∀ i, i < l.length → SpBd' (spAt l i) := fun i hi => by
  have := h i hi
  have := hf i hi
  exact ⟨⟨by omega, by omega⟩, ⟨by omega, by omega⟩⟩
/-- the variable whose days are told, and the other; the distances -/
def ownI (after : Bool) (l : Lk) : Nat := if after then l.af.toNat else l.be.toNat
def othI (after : Bool) (l : Lk) : Nat := if after then l.be.toNat else l.af.toNat
def loI (after : Bool) (l : Lk) : Int := if after then l.le else -l.mo
def hiI (after : Bool) (l : Lk) : Int := if after then l.mo else -l.le
def partN (n : Net) (l : Lk) (after : Bool) : List Sp := partL (loI after l) (hiI after l) (setAt n.sets (ownI after l)) (setAt n.sets (othI after l))
end Go.Proofs.YtfmnkojjkjkdeaaGreatDoor
