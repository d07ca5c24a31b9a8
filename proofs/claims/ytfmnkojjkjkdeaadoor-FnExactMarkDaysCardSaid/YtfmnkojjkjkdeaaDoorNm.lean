/- Spans made to a set, and days that are in both of two sets. Plain Lean. -/
import Derived.Test.YtfmnkojjkjkdeaaDoorNf
namespace Go.Proofs.YtfmnkojjkjkdeaaDoor
set_option linter.unusedVariables false
set_option linter.unusedSimpArgs false

theorem spAt_app {l : List Sp} {x : Sp} {i : Nat} (hi : i < l.length + 1) : spAt (l ++ [x]) i = if i = l.length then x else spAt l i := by
  unfold spAt
  rw [List.getD_eq_getElem?_getD, List.getD_eq_getElem?_getD]
  by_cases h2 : i = l.length
  · subst h2; simp
  · rw [if_neg h2, List.getElem?_append_left (by omega)]
theorem spAt_set {l : List Sp} {x : Sp} {j i : Nat} : spAt (l.set j x) i = if i = j ∧ i < l.length then x else spAt l i := by
  unfold spAt
  rw [List.getD_eq_getElem?_getD, List.getD_eq_getElem?_getD, List.getElem?_set]
  by_cases h : j = i
  · subst h
    by_cases h2 : j < l.length
    · simp [h2]
    · simp [h2, List.getElem?_eq_none (Nat.le_of_not_lt h2)]
  · rw [if_neg h, if_neg (fun hh => h hh.1.symm)]
def In (s : Sp) (d : Int) : Prop := s.fr ≤ d ∧ d ≤ s.to
theorem hasDay_app {l : List Sp} {x : Sp} {d : Int} : HasDay (l ++ [x]) d ↔ HasDay l d ∨ In x d := by
  constructor
  · rintro ⟨i, hi, h⟩
    have hi' : i < l.length + 1 := by simpa using hi
    rw [spAt_app hi'] at h
    by_cases e : i = l.length
    · rw [if_pos e] at h; exact .inr h
    · rw [if_neg e] at h; exact .inl ⟨i, by omega, h⟩
  · rintro (⟨i, hi, h⟩ | h)
    · refine ⟨i, by simp; omega, ?_⟩
      rw [spAt_app (by omega), if_neg (by omega)]; exact h
    · refine ⟨l.length, by simp, ?_⟩
      rw [spAt_app (by omega), if_pos rfl]; exact h

/-! ### spans in order, joined -/
def joinS (out : List Sp) (s : Sp) : List Sp :=
  if out ≠ [] ∧ s.fr ≤ (spAt out (out.length - 1)).to + 1 then out.set (out.length - 1) ⟨(spAt out (out.length - 1)).fr, max (spAt out (out.length - 1)).to s.to⟩ else out ++ [s]
def joinTo (l : List Sp) : Nat → List Sp
  | 0 => []
  | j + 1 => joinS (joinTo l j) (spAt l j)
def joinL (l : List Sp) : List Sp := joinTo l l.length
theorem joinS_len (out : List Sp) (s : Sp) : (joinS out s).length ≤ out.length + 1 := by
  unfold joinS
  split
  · simp
  · simp
theorem joinTo_len (l : List Sp) : ∀ j, (joinTo l j).length ≤ j
  | 0 => by simp [joinTo]
  | j + 1 => by
    have := joinTo_len l j
    have := joinS_len (joinTo l j) (spAt l j)
    show (joinS (joinTo l j) (spAt l j)).length ≤ _
    omega
/-- what holds of the spans joined so far -/
structure JoinOk (l out : List Sp) (j : Nat) : Prop where
  nf : Nf out
  days : ∀ d, HasDay out d ↔ ∃ i, i < j ∧ In (spAt l i) d
  last : out ≠ [] → ∃ i, i < j ∧ (spAt out (out.length - 1)).fr ≤ (spAt l i).fr
theorem JoinOk.step {l out : List Sp} {j : Nat} (h : JoinOk l out j) (hs : (spAt l j).fr ≤ (spAt l j).to) (ho : ∀ i, i < j → (spAt l i).fr ≤ (spAt l j).fr) : JoinOk l (joinS out (spAt l j)) (j + 1) := by
  obtain ⟨h1, h2, h3⟩ := h
  unfold joinS
  split
  · rename_i hc
    obtain ⟨hne, hle⟩ := hc
    have hpos : 0 < out.length := List.length_pos_iff.2 hne
    obtain ⟨q, hq, hqf⟩ := h3 hne
    have hqj := ho q hq
    have hl := (h1 (out.length - 1) (by omega)).1
    refine ⟨fun i hi => ?_, fun d => ?_, fun _ => ⟨q, by omega, ?_⟩⟩
    · have hi' : i < out.length := by simpa using hi
      have hi1 := h1 i hi'
      rw [spAt_set]
      by_cases e : i = out.length - 1
      · rw [if_pos ⟨e, hi'⟩]
        subst e
        refine ⟨by show (spAt out (out.length - 1)).fr ≤ max _ _; omega, fun h0 => ?_⟩
        rw [spAt_set, if_neg (by omega)]
        exact hi1.2 h0
      · rw [if_neg (fun hh => e hh.1)]
        refine ⟨hi1.1, fun h0 => ?_⟩
        rw [spAt_set, if_neg (by omega)]
        exact hi1.2 h0
    · have key : HasDay (out.set (out.length - 1) ⟨(spAt out (out.length - 1)).fr, max (spAt out (out.length - 1)).to (spAt l j).to⟩) d ↔ HasDay out d ∨ In (spAt l j) d := by
        constructor
        · rintro ⟨i, hi, hh⟩
          have hi' : i < out.length := by simpa using hi
          rw [spAt_set] at hh
          by_cases e : i = out.length - 1
          · rw [if_pos ⟨e, hi'⟩] at hh
            obtain ⟨ha, hb⟩ := hh
            have ha' : (spAt out (out.length - 1)).fr ≤ d := ha
            have hb' : d ≤ max (spAt out (out.length - 1)).to (spAt l j).to := hb
            by_cases hd : d ≤ (spAt out (out.length - 1)).to
            · exact .inl ⟨out.length - 1, by omega, ha', hd⟩
            · exact .inr ⟨by omega, by omega⟩
          · rw [if_neg (fun h => e h.1)] at hh
            exact .inl ⟨i, hi', hh⟩
        · rintro (⟨i, hi, ha, hb⟩ | ⟨ha, hb⟩)
          · refine ⟨i, by simpa using hi, ?_⟩
            rw [spAt_set]
            by_cases e : i = out.length - 1
            · rw [if_pos ⟨e, hi⟩]; subst e; exact ⟨ha, by show d ≤ max _ _; omega⟩
            · rw [if_neg (fun h => e h.1)]; exact ⟨ha, hb⟩
          · refine ⟨out.length - 1, by simp; omega, ?_⟩
            rw [spAt_set, if_pos ⟨rfl, by omega⟩]
            exact ⟨by show (spAt out (out.length - 1)).fr ≤ d; omega, by show d ≤ max _ _; omega⟩
      rw [key, h2]
      constructor
      · rintro (⟨i, hi, hh⟩ | hh)
        · exact ⟨i, by omega, hh⟩
        · exact ⟨j, by omega, hh⟩
      · rintro ⟨i, hi, hh⟩
        by_cases e : i = j
        · subst e; exact .inr hh
        · exact .inl ⟨i, by omega, hh⟩
    · rw [List.length_set, spAt_set, if_pos ⟨rfl, by omega⟩]
      exact hqf
  · rename_i hc
    refine ⟨fun i hi => ?_, fun d => ?_, fun _ => ⟨j, by omega, ?_⟩⟩
    · have hi' : i < out.length + 1 := by simpa using hi
      rw [spAt_app hi']
      by_cases e : i = out.length
      · rw [if_pos e]
        refine ⟨hs, fun h0 => ?_⟩
        rw [spAt_app (by omega), if_neg (by omega)]
        have hne : out ≠ [] := List.length_pos_iff.1 (by omega)
        have : ¬ (spAt l j).fr ≤ (spAt out (out.length - 1)).to + 1 := fun hh => hc ⟨hne, hh⟩
        rw [e]
        omega
      · rw [if_neg e, spAt_app (by omega), if_neg (by omega)]
        exact h1 i (by omega)
    · rw [hasDay_app, h2]
      constructor
      · rintro (⟨i, hi, hh⟩ | hh)
        · exact ⟨i, by omega, hh⟩
        · exact ⟨j, by omega, hh⟩
      · rintro ⟨i, hi, hh⟩
        by_cases e : i = j
        · subst e; exact .inr hh
        · exact .inl ⟨i, by omega, hh⟩
    · rw [List.length_append, spAt_app (by simp)]
      rw [if_pos (by simp)]
      exact Int.le_refl _
def SortedF (l : List Sp) : Prop := ∀ i k, i < k → k < l.length → (spAt l i).fr ≤ (spAt l k).fr
def FromTo (l : List Sp) : Prop := ∀ i, i < l.length → (spAt l i).fr ≤ (spAt l i).to
theorem joinTo_ok {l : List Sp} (h1 : SortedF l) (h2 : FromTo l) : ∀ j, j ≤ l.length → JoinOk l (joinTo l j) j
  | 0, _ => ⟨fun i hi => absurd hi (by simp [joinTo]), fun d => ⟨fun ⟨i, hi, _⟩ => absurd hi (by simp [joinTo]), fun ⟨i, hi, _⟩ => absurd hi (by omega)⟩, fun h => absurd rfl h⟩
  | j + 1, hj => (joinTo_ok h1 h2 j (by omega)).step (h2 j (by omega)) (fun i hi => h1 i j hi (by omega))
theorem joinL_ok {l : List Sp} (h1 : SortedF l) (h2 : FromTo l) : Nf (joinL l) ∧ ∀ d, HasDay (joinL l) d ↔ HasDay l d := by
  obtain ⟨a, b, _⟩ := joinTo_ok h1 h2 l.length (Nat.le_refl _)
  exact ⟨a, fun d => b d⟩

/-! ### days in both -/
structure MetSt where
  i : Nat
  k : Nat
  out : List Sp
def metS (a b : List Sp) (i k : Nat) : Sp := ⟨max (spAt a i).fr (spAt b k).fr, min (spAt a i).to (spAt b k).to⟩
def metOut (a b : List Sp) (i k : Nat) (out : List Sp) : List Sp := if (metS a b i k).fr ≤ (metS a b i k).to then out ++ [metS a b i k] else out
def metNext (a b : List Sp) (s : MetSt) : MetSt :=
  if s.i < a.length ∧ s.k < b.length then
    (if (spAt a s.i).to < (spAt b s.k).to then ⟨s.i + 1, s.k, metOut a b s.i s.k s.out⟩ else ⟨s.i, s.k + 1, metOut a b s.i s.k s.out⟩)
  else s
def metTo (a b : List Sp) : Nat → MetSt
  | 0 => ⟨0, 0, []⟩
  | t + 1 => metNext a b (metTo a b t)
def metL (a b : List Sp) : List Sp := (metTo a b (a.length + b.length)).out
theorem metTo_sum (a b : List Sp) : ∀ t, (metTo a b t).i ≤ a.length ∧ (metTo a b t).k ≤ b.length ∧ ((metTo a b t).i + (metTo a b t).k = t ∨ ¬ ((metTo a b t).i < a.length ∧ (metTo a b t).k < b.length))
  | 0 => ⟨Nat.zero_le _, Nat.zero_le _, .inl rfl⟩
  | t + 1 => by
    obtain ⟨h1, h2, h3⟩ := metTo_sum a b t
    have e : metTo a b (t + 1) = metNext a b (metTo a b t) := rfl
    rw [e]
    generalize metTo a b t = s at *
    by_cases h : s.i < a.length ∧ s.k < b.length
    · have h4 : s.i + s.k = t := h3.elim id (fun hh => absurd h hh)
      by_cases h5 : (spAt a s.i).to < (spAt b s.k).to
      · have e2 : metNext a b s = ⟨s.i + 1, s.k, metOut a b s.i s.k s.out⟩ := by unfold metNext; rw [if_pos h, if_pos h5]
        rw [e2]
        exact ⟨h.1, h2, .inl (by show s.i + 1 + s.k = t + 1; omega)⟩
      · have e2 : metNext a b s = ⟨s.i, s.k + 1, metOut a b s.i s.k s.out⟩ := by unfold metNext; rw [if_pos h, if_neg h5]
        rw [e2]
        exact ⟨h1, h.2, .inl (by show s.i + (s.k + 1) = t + 1; omega)⟩
    · have e2 : metNext a b s = s := by unfold metNext; rw [if_neg h]
      rw [e2]
      exact ⟨h1, h2, .inr h⟩
theorem metTo_end {a b : List Sp} {t : Nat} (h : ¬ ((metTo a b t).i < a.length ∧ (metTo a b t).k < b.length)) : ∀ q, metTo a b (t + q) = metTo a b t
  | 0 => rfl
  | q + 1 => by
    show metNext a b (metTo a b (t + q)) = _
    rw [metTo_end h q]
    unfold metNext
    rw [if_neg h]
theorem metL_end {a b : List Sp} {t : Nat} (h : ¬ ((metTo a b t).i < a.length ∧ (metTo a b t).k < b.length)) (ht : t ≤ a.length + b.length) : (metTo a b t).out = metL a b := by
  unfold metL
  obtain ⟨q, hq⟩ : ∃ q, a.length + b.length = t + q := ⟨a.length + b.length - t, by omega⟩
  rw [hq, metTo_end h q]
structure MetOk (a b : List Sp) (s : MetSt) : Prop where
  nf : Nf s.out
  gap : s.out ≠ [] → s.i < a.length → s.k < b.length → (spAt s.out (s.out.length - 1)).to + 2 ≤ max (spAt a s.i).fr (spAt b s.k).fr
  days : ∀ d, HasDay s.out d ↔ ∃ p q, p < a.length ∧ q < b.length ∧ (p < s.i ∨ q < s.k) ∧ In (spAt a p) d ∧ In (spAt b q) d
theorem Nf.mono {l : List Sp} (h : Nf l) {p : Nat} : ∀ q, p < q → q < l.length → (spAt l p).to + 2 ≤ (spAt l q).fr
  | 0, h1, _ => by omega
  | q + 1, h1, h2 => by
    have h3 := (h (q + 1) h2).2 (by omega)
    have e : q + 1 - 1 = q := by omega
    rw [e] at h3
    by_cases e2 : p = q
    · subst e2; exact h3
    · have h4 := Nf.mono (p := p) h q (by omega) (by omega)
      have h5 := (h q (by omega)).1
      omega
theorem MetOk.step {a b : List Sp} {s : MetSt} (ha : Nf a) (hb : Nf b) (h : MetOk a b s) : MetOk a b (metNext a b s) := by
  unfold metNext
  by_cases hc : s.i < a.length ∧ s.k < b.length
  · rw [if_pos hc]
    obtain ⟨h1, h2, h3⟩ := h
    obtain ⟨hi, hk⟩ := hc
    have hno : Nf (metOut a b s.i s.k s.out) ∧ (metOut a b s.i s.k s.out ≠ [] → (spAt (metOut a b s.i s.k s.out) ((metOut a b s.i s.k s.out).length - 1)).to + 2 ≤ max (spAt a s.i).fr (spAt b s.k).fr ∨ (spAt (metOut a b s.i s.k s.out) ((metOut a b s.i s.k s.out).length - 1)).to = min (spAt a s.i).to (spAt b s.k).to) ∧
        ∀ d, HasDay (metOut a b s.i s.k s.out) d ↔ HasDay s.out d ∨ (In (spAt a s.i) d ∧ In (spAt b s.k) d) := by
      unfold metOut
      split
      · rename_i hle
        refine ⟨fun i hi' => ?_, fun _ => .inr ?_, fun d => ?_⟩
        · have hi2 : i < s.out.length + 1 := by simpa using hi'
          rw [spAt_app hi2]
          by_cases e : i = s.out.length
          · rw [if_pos e]
            refine ⟨hle, fun h0 => ?_⟩
            rw [spAt_app (by omega), if_neg (by omega)]
            have := h2 (List.length_pos_iff.1 (by omega)) hi hk
            rw [e]
            exact this
          · rw [if_neg e, spAt_app (by omega), if_neg (by omega)]
            exact h1 i (by omega)
        · rw [List.length_append, spAt_app (by simp), if_pos (by simp)]
          rfl
        · rw [hasDay_app]
          have : In (metS a b s.i s.k) d ↔ (In (spAt a s.i) d ∧ In (spAt b s.k) d) := by
            show (max (spAt a s.i).fr (spAt b s.k).fr ≤ d ∧ d ≤ min (spAt a s.i).to (spAt b s.k).to) ↔ ((spAt a s.i).fr ≤ d ∧ d ≤ (spAt a s.i).to) ∧ ((spAt b s.k).fr ≤ d ∧ d ≤ (spAt b s.k).to)
            omega
          rw [this]
      · rename_i hle
        refine ⟨h1, fun h0 => .inl (h2 h0 hi hk), fun d => ⟨fun hh => .inl hh, fun hh => hh.elim id (fun ⟨⟨x1, x2⟩, x3, x4⟩ => absurd (show max (spAt a s.i).fr (spAt b s.k).fr ≤ min (spAt a s.i).to (spAt b s.k).to by omega) hle)⟩⟩
    obtain ⟨n1, n2, n3⟩ := hno
    by_cases h5 : (spAt a s.i).to < (spAt b s.k).to
    · rw [if_pos h5]
      refine ⟨n1, fun h0 hi' hk' => ?_, fun d => ?_⟩
      · have hi'' : s.i + 1 < a.length := hi'
        have h6 := ha.mono (p := s.i) (s.i + 1) (by omega) hi''
        have h7 := (ha s.i hi).1
        show _ ≤ max (spAt a (s.i + 1)).fr (spAt b s.k).fr
        rcases n2 h0 with e | e
        · have e' : (spAt (metOut a b s.i s.k s.out) ((metOut a b s.i s.k s.out).length - 1)).to + 2 ≤ max (spAt a s.i).fr (spAt b s.k).fr := e
          show (spAt (metOut a b s.i s.k s.out) ((metOut a b s.i s.k s.out).length - 1)).to + 2 ≤ _
          omega
        · show (spAt (metOut a b s.i s.k s.out) ((metOut a b s.i s.k s.out).length - 1)).to + 2 ≤ _
          rw [e]
          omega
      · show HasDay (metOut a b s.i s.k s.out) d ↔ ∃ p q, p < a.length ∧ q < b.length ∧ (p < s.i + 1 ∨ q < s.k) ∧ In (spAt a p) d ∧ In (spAt b q) d
        rw [n3, h3]
        constructor
        · rintro (⟨p, q, x1, x2, x3, x4, x5⟩ | ⟨x1, x2⟩)
          · exact ⟨p, q, x1, x2, by omega, x4, x5⟩
          · exact ⟨s.i, s.k, hi, hk, .inl (by omega), x1, x2⟩
        · rintro ⟨p, q, x1, x2, x3, x4, x5⟩
          by_cases e : p < s.i ∨ q < s.k
          · exact .inl ⟨p, q, x1, x2, e, x4, x5⟩
          · obtain rfl : p = s.i := by omega
            by_cases e2 : q = s.k
            · subst e2; exact .inr ⟨x4, x5⟩
            · have := hb.mono (p := s.k) q (by omega) x2
              have := x4.2
              have := x5.1
              omega
    · rw [if_neg h5]
      refine ⟨n1, fun h0 hi' hk' => ?_, fun d => ?_⟩
      · have hk'' : s.k + 1 < b.length := hk'
        have h6 := hb.mono (p := s.k) (s.k + 1) (by omega) hk''
        have h7 := (hb s.k hk).1
        show _ ≤ max (spAt a s.i).fr (spAt b (s.k + 1)).fr
        rcases n2 h0 with e | e
        · have e' : (spAt (metOut a b s.i s.k s.out) ((metOut a b s.i s.k s.out).length - 1)).to + 2 ≤ max (spAt a s.i).fr (spAt b s.k).fr := e
          show (spAt (metOut a b s.i s.k s.out) ((metOut a b s.i s.k s.out).length - 1)).to + 2 ≤ _
          omega
        · show (spAt (metOut a b s.i s.k s.out) ((metOut a b s.i s.k s.out).length - 1)).to + 2 ≤ _
          rw [e]
          omega
      · show HasDay (metOut a b s.i s.k s.out) d ↔ ∃ p q, p < a.length ∧ q < b.length ∧ (p < s.i ∨ q < s.k + 1) ∧ In (spAt a p) d ∧ In (spAt b q) d
        rw [n3, h3]
        constructor
        · rintro (⟨p, q, x1, x2, x3, x4, x5⟩ | ⟨x1, x2⟩)
          · exact ⟨p, q, x1, x2, by omega, x4, x5⟩
          · exact ⟨s.i, s.k, hi, hk, .inr (by omega), x1, x2⟩
        · rintro ⟨p, q, x1, x2, x3, x4, x5⟩
          by_cases e : p < s.i ∨ q < s.k
          · exact .inl ⟨p, q, x1, x2, e, x4, x5⟩
          · obtain rfl : q = s.k := by omega
            by_cases e2 : p = s.i
            · subst e2; exact .inr ⟨x4, x5⟩
            · have := ha.mono (p := s.i) p (by omega) x1
              have := x5.2
              have := x4.1
              omega
  · rw [if_neg hc]; exact h
theorem metTo_ok {a b : List Sp} (ha : Nf a) (hb : Nf b) : ∀ t, MetOk a b (metTo a b t)
  | 0 => ⟨fun i hi => absurd hi (by simp [metTo]), fun h => absurd rfl h, fun d => ⟨fun ⟨i, hi, _⟩ => absurd hi (by simp [metTo]), fun ⟨p, q, _, _, h, _⟩ => by simp [metTo] at h⟩⟩
  | t + 1 => (metTo_ok ha hb t).step ha hb
/-- what is met is in normal form, and has the days that are in both -/
theorem metL_ok {a b : List Sp} (ha : Nf a) (hb : Nf b) : Nf (metL a b) ∧ ∀ d, HasDay (metL a b) d ↔ HasDay a d ∧ HasDay b d := by
  obtain ⟨h1, _, h3⟩ := metTo_ok ha hb (a.length + b.length)
  refine ⟨h1, fun d => ?_⟩
  have hs := metTo_sum a b (a.length + b.length)
  show HasDay (metTo a b (a.length + b.length)).out d ↔ _
  rw [h3]
  constructor
  · rintro ⟨p, q, x1, x2, _, x4, x5⟩
    exact ⟨⟨p, x1, x4⟩, q, x2, x5⟩
  · rintro ⟨⟨p, x1, x4⟩, q, x2, x5⟩
    refine ⟨p, q, x1, x2, ?_, x4, x5⟩
    rcases hs.2.2 with e | e
    · omega
    · omega
theorem metOut_len (a b : List Sp) (i k : Nat) (out : List Sp) : (metOut a b i k out).length ≤ out.length + 1 := by
  unfold metOut
  split <;> simp
theorem metTo_len (a b : List Sp) : ∀ t, (metTo a b t).out.length ≤ t
  | 0 => by simp [metTo]
  | t + 1 => by
    have ih := metTo_len a b t
    have := metOut_len a b (metTo a b t).i (metTo a b t).k (metTo a b t).out
    have e : metTo a b (t + 1) = metNext a b (metTo a b t) := rfl
    rw [e]
    generalize metTo a b t = s at *
    unfold metNext
    split
    · split
      · show (metOut a b s.i s.k s.out).length ≤ t + 1; omega
      · show (metOut a b s.i s.k s.out).length ≤ t + 1; omega
    · omega
end Go.Proofs.YtfmnkojjkjkdeaaDoor
