/- Sets of days in normal form: one list for one set of days. Plain Lean. -/
import Derived.Test.YtfmnkojjkjkdeaaDoorMath
namespace Go.Proofs.YtfmnkojjkjkdeaaDoor
set_option linter.unusedVariables false
set_option linter.unusedSimpArgs false

/-- spans in order, each behind a day that is in none; all from lo on -/
def NfL : Int → List Sp → Prop
  | _, [] => True
  | lo, s :: r => lo ≤ s.fr ∧ s.fr ≤ s.to ∧ NfL (s.to + 2) r
def HasL (l : List Sp) (d : Int) : Prop := ∃ s, s ∈ l ∧ s.fr ≤ d ∧ d ≤ s.to
theorem NfL.mono : ∀ {l : List Sp} {a b : Int}, NfL a l → b ≤ a → NfL b l
  | [], _, _, _, _ => trivial
  | _ :: _, _, _, h, hb => ⟨by have := h.1; omega, h.2⟩
theorem NfL.ge : ∀ {l : List Sp} {a d : Int}, NfL a l → HasL l d → a ≤ d
  | [], _, _, _, ⟨_, h, _⟩ => by cases h
  | s :: r, a, d, h, ⟨t, ht, h1, h2⟩ => by
    rcases List.mem_cons.1 ht with e | e
    · subst e; have := h.1; omega
    · have := NfL.ge h.2.2 ⟨t, e, h1, h2⟩
      have := h.1
      have := h.2.1
      omega
theorem NfL.eq : ∀ {a b : List Sp} {x y : Int}, NfL x a → NfL y b → (∀ d, HasL a d ↔ HasL b d) → a = b
  | [], [], _, _, _, _, _ => rfl
  | [], t :: q, _, _, _, hb, h => by
    obtain ⟨s, hs, _⟩ := (h t.fr).2 ⟨t, by simp, Int.le_refl _, hb.2.1⟩
    cases hs
  | s :: r, [], _, _, ha, _, h => by
    obtain ⟨t, ht, _⟩ := (h s.fr).1 ⟨s, by simp, Int.le_refl _, ha.2.1⟩
    cases ht
  | s :: r, t :: q, x, y, ha, hb, h => by
    have case2 : ∀ {s : Sp} {r : List Sp} {d x : Int}, NfL x (s :: r) → HasL (s :: r) d → (s.fr ≤ d ∧ d ≤ s.to) ∨ (s.to + 2 ≤ d ∧ HasL r d) := by
      intro s r d x hn ⟨u, hu, h1, h2⟩
      rcases List.mem_cons.1 hu with e | e
      · subst e; exact .inl ⟨h1, h2⟩
      · exact .inr ⟨NfL.ge hn.2.2 ⟨u, e, h1, h2⟩, u, e, h1, h2⟩
    have a1 := case2 hb ((h s.fr).1 ⟨s, by simp, Int.le_refl _, ha.2.1⟩)
    have a2 := case2 ha ((h t.fr).2 ⟨t, by simp, Int.le_refl _, hb.2.1⟩)
    have b1 := case2 hb ((h s.to).1 ⟨s, by simp, ha.2.1, Int.le_refl _⟩)
    have b2 := case2 ha ((h t.to).2 ⟨t, by simp, hb.2.1, Int.le_refl _⟩)
    have ha' := ha.2.1
    have hb' := hb.2.1
    have hfr : s.fr = t.fr := by omega
    have hto : s.to = t.to := by
      rcases Int.lt_trichotomy s.to t.to with e | e | e
      · have := case2 ha ((h (s.to + 1)).2 ⟨t, by simp, by omega, by omega⟩)
        omega
      · exact e
      · have := case2 hb ((h (t.to + 1)).1 ⟨s, by simp, by omega, by omega⟩)
        omega
    have est : s = t := by cases s; cases t; simp_all
    subst est
    have hrq : r = q := by
      refine NfL.eq ha.2.2 hb.2.2 (fun d => ⟨fun hd => ?_, fun hd => ?_⟩)
      · have h1 := NfL.ge ha.2.2 hd
        obtain ⟨u, hu, h2, h3⟩ := hd
        rcases case2 hb ((h d).1 ⟨u, by simp [hu], h2, h3⟩) with h4 | h4
        · omega
        · exact h4.2
      · have h1 := NfL.ge hb.2.2 hd
        obtain ⟨u, hu, h2, h3⟩ := hd
        rcases case2 ha ((h d).2 ⟨u, by simp [hu], h2, h3⟩) with h4 | h4
        · omega
        · exact h4.2
    rw [hrq]
/-- the same by index -/
def Nf (l : List Sp) : Prop := ∀ i, i < l.length → (spAt l i).fr ≤ (spAt l i).to ∧ (0 < i → (spAt l (i - 1)).to + 2 ≤ (spAt l i).fr)
theorem nfL_of : ∀ {l : List Sp} {lo : Int}, (l ≠ [] → lo ≤ (spAt l 0).fr) → Nf l → NfL lo l
  | [], _, _, _ => trivial
  | s :: r, lo, h0, h => by
    refine ⟨h0 (by simp), (h 0 (by simp)).1, nfL_of (fun hr => ?_) (fun i hi => ⟨(h (i + 1) (by simp; omega)).1, fun hi0 => ?_⟩)⟩
    · have hl : 0 < r.length := by
        cases r with
        | nil => exact absurd rfl hr
        | cons _ _ => simp
      exact (h 1 (by simp; omega)).2 (by omega)
    · have := (h (i + 1) (by simp; omega)).2 (by omega)
      have e : i + 1 - 1 = (i - 1) + 1 := by omega
      rw [e] at this
      exact this
theorem nf_of : ∀ {l : List Sp} {lo : Int}, NfL lo l → Nf l ∧ (l ≠ [] → lo ≤ (spAt l 0).fr)
  | [], _, _ => ⟨fun i hi => absurd hi (by simp), fun h => absurd rfl h⟩
  | s :: r, lo, h => by
    obtain ⟨h1, h2⟩ := nf_of h.2.2
    refine ⟨fun i hi => ?_, fun _ => h.1⟩
    match i, hi with
    | 0, _ => exact ⟨h.2.1, fun h => absurd h (by omega)⟩
    | i + 1, hi =>
      have hi' : i < r.length := by simpa using hi
      refine ⟨(h1 i hi').1, fun _ => ?_⟩
      match i, hi' with
      | 0, hi' => exact h2 (by intro e; rw [e] at hi'; simp at hi')
      | i + 1, hi' => exact (h1 (i + 1) hi').2 (by omega)
theorem hasL_iff {l : List Sp} {d : Int} : HasL l d ↔ HasDay l d := by
  constructor
  · rintro ⟨s, hs, h1, h2⟩
    obtain ⟨i, hi, e⟩ := List.getElem_of_mem hs
    have e2 : spAt l i = s := by
      unfold spAt
      rw [List.getD_eq_getElem?_getD, List.getElem?_eq_getElem hi]
      exact e
    exact ⟨i, hi, by rw [e2]; exact h1, by rw [e2]; exact h2⟩
  · rintro ⟨i, hi, h1, h2⟩
    refine ⟨spAt l i, ?_, h1, h2⟩
    unfold spAt
    rw [List.getD_eq_getElem?_getD, List.getElem?_eq_getElem hi]
    exact List.getElem_mem hi
theorem Nf.eq {a b : List Sp} (ha : Nf a) (hb : Nf b) (h : ∀ d, HasDay a d ↔ HasDay b d) : a = b :=
  NfL.eq (x := (spAt a 0).fr) (y := (spAt b 0).fr) (nfL_of (fun _ => Int.le_refl _) ha) (nfL_of (fun _ => Int.le_refl _) hb) (fun d => by rw [hasL_iff, hasL_iff]; exact h d)
theorem SetOk.nf {l : List Sp} (h : SetOk l) : Nf l := fun i hi => ⟨(h.2 i hi).1.2.2, (h.2 i hi).2⟩
end Go.Proofs.YtfmnkojjkjkdeaaDoor
