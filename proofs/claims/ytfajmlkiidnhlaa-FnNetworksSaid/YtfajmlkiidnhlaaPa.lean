/- Plain: the days of one variable of a link that have a partner. -/
import Derived.Test.YtfajmlkiidnhlaaIn
namespace Go.Proofs.Ytfajmlkiidnhlaa
set_option linter.unusedVariables false
set_option linter.unusedSimpArgs false

/-- a set in normal form, of days -/
def SetD (l : List Sp) : Prop := Nf l ∧ ∀ i, i < l.length → DayOk (spAt l i).fr ∧ DayOk (spAt l i).to
theorem SetOk.d {l : List Sp} (h : SetOk l) : SetD l := ⟨h.nf, fun i hi => ⟨(h.2 i hi).1.1, (h.2 i hi).1.2.1⟩⟩
theorem SetD.ok {l : List Sp} (h : SetD l) (hl : l.length ≤ 300) : SetOk l := ⟨hl, fun i hi => ⟨⟨(h.2 i hi).1, (h.2 i hi).2, (h.1 i hi).1⟩, (h.1 i hi).2⟩⟩
theorem setOk_iff {l : List Sp} (h : SetD l) : SetOk l ↔ l.length ≤ 300 := ⟨fun hh => hh.1, h.ok⟩
theorem SetD.fromTo {l : List Sp} (h : SetD l) : FromTo l := fun i hi => (h.1 i hi).1
theorem SetD.fr {l : List Sp} (h : SetD l) : ∀ i, i < l.length → 2 * (i : Int) ≤ (spAt l i).fr
  | 0, hi => by have := (h.2 0 hi).1.1; omega
  | i + 1, hi => by
    have h1 := SetD.fr h i (by omega)
    have h2 := (h.1 (i + 1) hi).2 (by omega)
    have h3 := (h.1 i (by omega)).1
    rw [show i + 1 - 1 = i by omega] at h2
    omega
theorem SetD.len {l : List Sp} (h : SetD l) : l.length ≤ 365250 := by
  rcases Nat.eq_zero_or_pos l.length with h0 | h0
  · omega
  · have h1 := h.fr (l.length - 1) (by omega)
    have h2 := (h.2 (l.length - 1) (by omega)).1.2
    omega
theorem SetD.day {l : List Sp} (h : SetD l) {d : Int} (hd : HasDay l d) : DayOk d := by
  obtain ⟨i, hi, h1, h2⟩ := hd
  obtain ⟨⟨a, b⟩, ⟨c, e⟩⟩ := h.2 i hi
  exact ⟨by omega, by omega⟩
theorem setD_of {l : List Sp} (h : Nf l) (hd : ∀ d, HasDay l d → DayOk d) : SetD l := ⟨h, fun i hi => ⟨hd _ ⟨i, hi, Int.le_refl _, (h i hi).1⟩, hd _ ⟨i, hi, (h i hi).1, Int.le_refl _⟩⟩⟩
theorem SetD.bd {l : List Sp} (h : SetD l) : ∀ i, i < l.length → SpBd' (spAt l i) := fun i hi => by
  obtain ⟨⟨a, b⟩, ⟨c, e⟩⟩ := h.2 i hi
  exact ⟨⟨by omega, by omega⟩, ⟨by omega, by omega⟩⟩
/-- what is made of spans lies where they lie -/
theorem mkL_bd {l : List Sp} {a b : Int} (hf : FromTo l) (h : ∀ i, i < l.length → a ≤ (spAt l i).fr ∧ (spAt l i).to ≤ b) : ∀ i, i < (mkL l).length → a ≤ (spAt (mkL l) i).fr ∧ (spAt (mkL l) i).to ≤ b := fun i hi => by
  obtain ⟨h1, h2⟩ := mkL_ok hf
  have h3 := (h1 i hi).1
  obtain ⟨k, hk, x1, x2⟩ := (h2 _).1 ⟨i, hi, Int.le_refl _, h3⟩
  obtain ⟨m, hm, y1, y2⟩ := (h2 _).1 ⟨i, hi, h3, Int.le_refl _⟩
  have := h k hk
  have := h m hm
  omega

/-! ### spans that are reached -/
def shS (lo hi : Int) (s : Sp) : Sp := ⟨s.fr + lo, s.to + hi⟩
def shTo (lo hi : Int) (l : List Sp) : Nat → List Sp
  | 0 => []
  | j + 1 => shTo lo hi l j ++ [shS lo hi (spAt l j)]
theorem shTo_len (lo hi : Int) (l : List Sp) : ∀ j, (shTo lo hi l j).length = j
  | 0 => rfl
  | j + 1 => by rw [shTo, List.length_append, shTo_len lo hi l j]; rfl
theorem spAt_shTo (lo hi : Int) (l : List Sp) : ∀ j i, i < j → spAt (shTo lo hi l j) i = shS lo hi (spAt l i)
  | 0, _, h => absurd h (by omega)
  | j + 1, i, h => by
    rw [shTo, spAt_app (by rw [shTo_len]; omega), shTo_len]
    by_cases e : i = j
    · subst e; rw [if_pos rfl]
    · rw [if_neg e, spAt_shTo lo hi l j i (by omega)]
def clS (lo hi : Int) (s : Sp) : Sp := ⟨max 0 (s.fr + lo), min 730499 (s.to + hi)⟩
def clOut (lo hi : Int) (s : Sp) (out : List Sp) : List Sp := if (clS lo hi s).fr ≤ (clS lo hi s).to then out ++ [clS lo hi s] else out
def clTo (lo hi : Int) (l : List Sp) : Nat → List Sp
  | 0 => []
  | j + 1 => clOut lo hi (spAt l j) (clTo lo hi l j)
theorem clOut_len (lo hi : Int) (s : Sp) (out : List Sp) : (clOut lo hi s out).length ≤ out.length + 1 := by
  unfold clOut
  split <;> simp
theorem clTo_len (lo hi : Int) (l : List Sp) : ∀ j, (clTo lo hi l j).length ≤ j
  | 0 => by simp [clTo]
  | j + 1 => by
    have h1 := clTo_len lo hi l j
    have h2 := clOut_len lo hi (spAt l j) (clTo lo hi l j)
    show (clOut lo hi (spAt l j) (clTo lo hi l j)).length ≤ _
    omega
theorem clTo_all (lo hi : Int) (l : List Sp) : ∀ j i, i < (clTo lo hi l j).length → (spAt (clTo lo hi l j) i).fr ≤ (spAt (clTo lo hi l j) i).to ∧ DayOk (spAt (clTo lo hi l j) i).fr ∧ DayOk (spAt (clTo lo hi l j) i).to
  | 0, i, h => absurd h (by simp [clTo])
  | j + 1, i, h => by
    have ih := clTo_all lo hi l j
    have e : clTo lo hi l (j + 1) = clOut lo hi (spAt l j) (clTo lo hi l j) := rfl
    rw [e] at h ⊢
    unfold clOut at h ⊢
    split at h
    · rename_i hc
      rw [if_pos hc]
      have h' : i < (clTo lo hi l j).length + 1 := by simpa using h
      rw [spAt_app h']
      by_cases e2 : i = (clTo lo hi l j).length
      · rw [if_pos e2]
        have hc' : max 0 ((spAt l j).fr + lo) ≤ min 730499 ((spAt l j).to + hi) := hc
        refine ⟨hc, ⟨?_, ?_⟩, ⟨?_, ?_⟩⟩
        · show 0 ≤ max 0 ((spAt l j).fr + lo); omega
        · show max 0 ((spAt l j).fr + lo) ≤ 730499; omega
        · show 0 ≤ min 730499 ((spAt l j).to + hi); omega
        · show min 730499 ((spAt l j).to + hi) ≤ 730499; omega
      · rw [if_neg e2]
        exact ih i (by omega)
    · rename_i hc
      rw [if_neg hc]
      exact ih i h
theorem clTo_days (lo hi : Int) (l : List Sp) (d : Int) : ∀ j, HasDay (clTo lo hi l j) d ↔ ∃ i, i < j ∧ In (clS lo hi (spAt l i)) d
  | 0 => ⟨fun ⟨i, hi, _⟩ => absurd hi (by simp [clTo]), fun ⟨i, hi, _⟩ => absurd hi (by omega)⟩
  | j + 1 => by
    have ih := clTo_days lo hi l d j
    have e : clTo lo hi l (j + 1) = clOut lo hi (spAt l j) (clTo lo hi l j) := rfl
    have key : HasDay (clTo lo hi l (j + 1)) d ↔ HasDay (clTo lo hi l j) d ∨ In (clS lo hi (spAt l j)) d := by
      rw [e]
      unfold clOut
      split
      · exact hasDay_app
      · rename_i hc
        exact ⟨.inl, fun h => h.elim id (fun ⟨h1, h2⟩ => absurd (show (clS lo hi (spAt l j)).fr ≤ (clS lo hi (spAt l j)).to by omega) hc)⟩
    rw [key, ih]
    constructor
    · rintro (⟨i, h1, h2⟩ | h)
      · exact ⟨i, by omega, h2⟩
      · exact ⟨j, by omega, h⟩
    · rintro ⟨i, h1, h2⟩
      by_cases e2 : i = j
      · subst e2; exact .inr h2
      · exact .inl ⟨i, by omega, h2⟩
theorem shTo_days (lo hi : Int) (l : List Sp) (d : Int) : HasDay (shTo lo hi l l.length) d ↔ ∃ i, i < l.length ∧ In (shS lo hi (spAt l i)) d := by
  constructor
  · rintro ⟨i, h1, h2, h3⟩
    rw [shTo_len] at h1
    rw [spAt_shTo lo hi l _ i h1] at h2 h3
    exact ⟨i, h1, h2, h3⟩
  · rintro ⟨i, h1, h2, h3⟩
    exact ⟨i, by rw [shTo_len]; exact h1, by rw [spAt_shTo lo hi l _ i h1]; exact h2, by rw [spAt_shTo lo hi l _ i h1]; exact h3⟩
theorem shTo_fromTo {lo hi : Int} {l : List Sp} (hl : lo ≤ hi) (h : FromTo l) : FromTo (shTo lo hi l l.length) := fun i hi' => by
  rw [shTo_len] at hi'
  rw [spAt_shTo lo hi l _ i hi']
  have := h i hi'
  show (spAt l i).fr + lo ≤ (spAt l i).to + hi
  omega
theorem clTo_fromTo (lo hi : Int) (l : List Sp) : FromTo (clTo lo hi l l.length) := fun i hi' => (clTo_all lo hi l _ i hi').1
/-- the days of own that have a partner among other's -/
def partL (lo hi : Int) (own other : List Sp) : List Sp := metL own (mkL (shTo lo hi other other.length))
theorem partL_ok {lo hi : Int} {own other : List Sp} (h1 : SetD own) (h2 : FromTo other) (hl : lo ≤ hi) : SetD (partL lo hi own other) ∧ ∀ d, HasDay (partL lo hi own other) d ↔ HasDay own d ∧ ∃ e, HasDay other e ∧ lo ≤ d - e ∧ d - e ≤ hi := by
  obtain ⟨m1, m2⟩ := mkL_ok (shTo_fromTo hl h2)
  obtain ⟨n1, n2⟩ := metL_ok h1.1 m1
  have key : ∀ d, HasDay (partL lo hi own other) d ↔ HasDay own d ∧ ∃ e, HasDay other e ∧ lo ≤ d - e ∧ d - e ≤ hi := fun d => by
    show HasDay (metL own (mkL (shTo lo hi other other.length))) d ↔ _
    rw [n2, m2, shTo_days]
    refine and_congr Iff.rfl ⟨?_, ?_⟩
    · rintro ⟨i, hi', x1, x2⟩
      have x1' : (spAt other i).fr + lo ≤ d := x1
      have x2' : d ≤ (spAt other i).to + hi := x2
      have hf := h2 i hi'
      by_cases hc : d - lo ≤ (spAt other i).to
      · exact ⟨d - lo, ⟨i, hi', by omega, by omega⟩, by omega, by omega⟩
      · exact ⟨(spAt other i).to, ⟨i, hi', by omega, by omega⟩, by omega, by omega⟩
    · rintro ⟨e, ⟨i, hi', x1, x2⟩, x3, x4⟩
      exact ⟨i, hi', by show (spAt other i).fr + lo ≤ d; omega, by show d ≤ (spAt other i).to + hi; omega⟩
  exact ⟨setD_of n1 (fun d hd => h1.day ((key d).1 hd).1), key⟩
theorem part_eq {lo hi : Int} {own other : List Sp} (h1 : SetD own) (h2 : FromTo other) (hl : lo ≤ hi) : metL own (mkL (clTo lo hi other other.length)) = partL lo hi own other := by
  obtain ⟨m1, m2⟩ := mkL_ok (clTo_fromTo lo hi other)
  obtain ⟨n1, n2⟩ := metL_ok h1.1 m1
  obtain ⟨p1, p2⟩ := mkL_ok (shTo_fromTo hl h2)
  obtain ⟨q1, q2⟩ := metL_ok h1.1 p1
  refine n1.eq q1 (fun d => ?_)
  show _ ↔ HasDay (metL own (mkL (shTo lo hi other other.length))) d
  rw [n2, q2, m2, p2, clTo_days, shTo_days]
  refine and_congr_right (fun hd => ?_)
  have hdd := h1.day hd
  constructor
  · rintro ⟨i, hi', x1, x2⟩
    have x1' : max 0 ((spAt other i).fr + lo) ≤ d := x1
    have x2' : d ≤ min 730499 ((spAt other i).to + hi) := x2
    exact ⟨i, hi', by show (spAt other i).fr + lo ≤ d; omega, by show d ≤ (spAt other i).to + hi; omega⟩
  · rintro ⟨i, hi', x1, x2⟩
    have x1' : (spAt other i).fr + lo ≤ d := x1
    have x2' : d ≤ (spAt other i).to + hi := x2
    obtain ⟨d1, d2⟩ := hdd
    exact ⟨i, hi', by show max 0 ((spAt other i).fr + lo) ≤ d; omega, by show d ≤ min 730499 ((spAt other i).to + hi); omega⟩
theorem shTo_bd {lo hi : Int} {l : List Sp} (h : SetD l) (h1 : -730499 ≤ lo) (h2 : lo ≤ 730499) (h3 : -730499 ≤ hi) (h4 : hi ≤ 730499) : ∀ i, i < (shTo lo hi l l.length).length → -1460998 ≤ (spAt (shTo lo hi l l.length) i).fr ∧ (spAt (shTo lo hi l l.length) i).to ≤ 1460998 := fun i hi' => by
  rw [shTo_len] at hi'
  rw [spAt_shTo lo hi l _ i hi']
  obtain ⟨⟨a, b⟩, ⟨c, e⟩⟩ := h.2 i hi'
  exact ⟨by show -1460998 ≤ (spAt l i).fr + lo; omega, by show (spAt l i).to + hi ≤ 1460998; omega⟩
theorem sp_bd {l : List Sp} {a b : Int} (hf : FromTo l) (h : ∀ i, i < l.length → a ≤ (spAt l i).fr ∧ (spAt l i).to ≤ b) (ha : -4611686018427387904 ≤ a) (hb : b ≤ 4611686018427387904) : ∀ i, i < l.length → SpBd' (spAt l i) := fun i hi => by
  have := h i hi
  have := hf i hi
  exact ⟨⟨by omega, by omega⟩, ⟨by omega, by omega⟩⟩
/-- the variable whose days are told, and the other; the distances -/
def ownI (after : Bool) (l : Lk) : Nat := if after then l.af.toNat else l.be.toNat
def othI (after : Bool) (l : Lk) : Nat := if after then l.be.toNat else l.af.toNat
def loI (after : Bool) (l : Lk) : Int := if after then l.le else -l.mo
def hiI (after : Bool) (l : Lk) : Int := if after then l.mo else -l.le
def partN (n : Net) (l : Lk) (after : Bool) : List Sp := partL (loI after l) (hiI after l) (setAt n.sets (ownI after l)) (setAt n.sets (othI after l))
end Go.Proofs.Ytfajmlkiidnhlaa
