/- Rounds of lowering under difference constraints end within as many rounds as there are variables, or never. -/
namespace Go.Proofs.YtbddkmlfjghllaaGreatDoor
set_option linter.unusedVariables false
set_option linter.unusedSimpArgs false

/-- p fulfils all constraints v ≤ u + c -/
def Feas (C : Nat → Nat → Int → Prop) (p : Nat → Int) : Prop := ∀ u v c, C u v c → p v ≤ p u + c
/-- a row of rounds: each lowers, processes all constraints, and stays above all that fulfils them -/
structure Rounds (n : Nat) (C : Nat → Nat → Int → Prop) (x : Nat → Nat → Int) : Prop where
  dom : ∀ u v c, C u v c → u < n ∧ v < n
  le : ∀ r i, i < n → x (r + 1) i ≤ x r i
  step : ∀ r u v c, C u v c → x (r + 1) v ≤ x r u + c
  keep : ∀ r p, Feas C p → (∀ i, i < n → p i ≤ x r i) → ∀ i, i < n → p i ≤ x (r + 1) i
theorem nat_min (f : Nat → Nat) : ∀ m r, f r ≤ m → ∃ r0, ∀ r', f r0 ≤ f r' := by
  intro m
  induction m with
  | zero => exact fun r h => ⟨r, fun r' => by omega⟩
  | succ m ih =>
    intro r h
    by_cases hm : ∀ r', f r ≤ f r'
    · exact ⟨r, hm⟩
    · obtain ⟨r', h'⟩ := Classical.not_forall.1 hm
      exact ih r' (by omega)
section
variable {n : Nat} {C : Nat → Nat → Int → Prop} {x : Nat → Nat → Int} (H : Rounds n C x)
include H
theorem Rounds.anti {r r' : Nat} (h : r ≤ r') {i : Nat} (hi : i < n) : x r' i ≤ x r i := by
  induction h with
  | refl => exact Int.le_refl _
  | step _ ih => exact Int.le_trans (H.le _ i hi) ih
theorem Rounds.above {p : Nat → Int} (hp : Feas C p) (h0 : ∀ i, i < n → p i ≤ x 0 i) (r : Nat) : ∀ i, i < n → p i ≤ x r i := by
  induction r with
  | zero => exact h0
  | succ r ih => exact H.keep r p hp ih
/-- a round that changes nothing has found what fulfils all -/
theorem Rounds.still {r : Nat} (h : ∀ i, i < n → x (r + 1) i = x r i) : Feas C (x r) := by
  intro u v c hc
  have := H.step r u v c hc
  rw [h v (H.dom u v c hc).2] at this
  exact this
/-- the limit -/
theorem Rounds.limit {p : Nat → Int} (hp : Feas C p) (h0 : ∀ i, i < n → p i ≤ x 0 i) :
    ∃ P : Nat → Int, Feas C P ∧ (∀ r i, i < n → P i ≤ x r i) ∧ (∀ q, Feas C q → (∀ i, i < n → q i ≤ x 0 i) → ∀ i, i < n → q i ≤ P i) := by
  have hmin : ∀ i, ∃ r0, i < n → ∀ r', x r0 i ≤ x r' i := by
    intro i
    by_cases hi : i < n
    · obtain ⟨r0, h⟩ := nat_min (fun r => (x r i - p i).toNat) _ 0 (Nat.le_refl _)
      refine ⟨r0, fun _ r' => ?_⟩
      have h1 := h r'
      have h2 := H.above hp h0 r0 i hi
      have h3 := H.above hp h0 r' i hi
      omega
    · exact ⟨0, fun h => absurd h hi⟩
  obtain ⟨R, hR⟩ := Classical.axiomOfChoice hmin
  refine ⟨fun i => x (R i) i, ?_, fun r i hi => hR i hi r, fun q hq hq0 i hi => H.above hq hq0 _ i hi⟩
  intro u v c hc
  obtain ⟨hu, hv⟩ := H.dom u v c hc
  have h1 := H.step (R u) u v c hc
  have h2 := hR v hv (R u + 1)
  show x (R v) v ≤ x (R u) u + c
  omega
end
/-- how many of the first n -/
def cntB (p : Nat → Bool) : Nat → Nat
  | 0 => 0
  | n + 1 => cntB p n + (if p n then 1 else 0)
theorem cntB_le (p : Nat → Bool) : ∀ n, cntB p n ≤ n
  | 0 => Nat.le_refl _
  | n + 1 => by have := cntB_le p n; unfold cntB; split <;> omega
theorem cntB_mono {p q : Nat → Bool} : ∀ n, (∀ i, i < n → p i = true → q i = true) → cntB p n ≤ cntB q n
  | 0, _ => Nat.le_refl _
  | n + 1, h => by
    have h1 := cntB_mono n (fun i hi => h i (by omega))
    have h2 := h n (by omega)
    unfold cntB
    cases hp : p n <;> cases hq : q n <;> simp_all <;> omega
theorem cntB_lt {p q : Nat → Bool} : ∀ n, (∀ i, i < n → p i = true → q i = true) → (∃ i, i < n ∧ q i = true ∧ p i = false) → cntB p n < cntB q n
  | 0, _, ⟨i, hi, _⟩ => absurd hi (by omega)
  | n + 1, h, ⟨i, hi, hq, hp⟩ => by
    by_cases e : i = n
    · subst e
      have h1 := cntB_mono i (fun j hj => h j (by omega))
      unfold cntB
      rw [hq, hp]
      simp
      omega
    · have h1 := cntB_lt n (fun j hj => h j (by omega)) ⟨i, by omega, hq, hp⟩
      have h2 := h n (by omega)
      unfold cntB
      cases hp : p n <;> cases hq : q n <;> simp_all <;> omega
theorem cntB_all {p : Nat → Bool} : ∀ n, n ≤ cntB p n → ∀ i, i < n → p i = true
  | 0, _, i, hi => absurd hi (by omega)
  | n + 1, h, i, hi => by
    have h1 := cntB_le p n
    unfold cntB at h
    cases hp : p n
    · rw [hp] at h; simp at h; omega
    · rw [hp] at h; simp at h
      by_cases e : i = n
      · subst e; exact hp
      · exact cntB_all n (by omega) i (by omega)
/-- where something fulfils the constraints below the start, all rounds from the n-th on change nothing -/
theorem Rounds.ends {n : Nat} {C : Nat → Nat → Int → Prop} {x : Nat → Nat → Int} (H : Rounds n C x) {p : Nat → Int} (hp : Feas C p) (h0 : ∀ i, i < n → p i ≤ x 0 i) :
    ∃ P : Nat → Int, Feas C P ∧ (∀ i, i < n → P i ≤ x 0 i) ∧ (∀ q, Feas C q → (∀ i, i < n → q i ≤ x 0 i) → ∀ i, i < n → q i ≤ P i) ∧ (∀ r i, i < n → P i ≤ x r i) ∧ ∀ r, n ≤ r + 1 → ∀ i, i < n → x r i = P i := by
  obtain ⟨P, hP, hle, hgr⟩ := H.limit hp h0
  refine ⟨P, hP, hle 0, hgr, hle, ?_⟩
  -- a set of settled variables that does not grow is all
  have grow : ∀ (T : Nat → Bool) (r : Nat), (∀ u v c, C u v c → T u = true → T v = false → P v + 1 ≤ P u + c) → (∀ i, i < n → T i = false → P i + 1 ≤ x 0 i) → ∀ i, i < n → T i = true := by
    intro T r h1 h2 i hi
    cases hT : T i
    · have hq : Feas C (fun j => if T j then P j else P j + 1) := by
        intro u v c hc
        have h3 := hP u v c hc
        have h4 := h1 u v c hc
        cases hu : T u <;> cases hv : T v <;> simp only [hu, hv, if_true, if_false, Bool.false_eq_true] at h4 ⊢ <;> first | omega | (have := h4 trivial trivial; omega) | skip
      have := hgr _ hq (fun j hj => by
        have h5 := hle 0 j hj
        have h6 := h2 j hj
        cases hu : T j <;> simp only [hu, if_true, if_false, Bool.false_eq_true] <;> first | exact h6 hu | exact h5) i hi
      simp only [hT, if_false, Bool.false_eq_true] at this
      omega
    · rfl
  have count : ∀ r, n ≤ cntB (fun i => decide (x r i = P i)) n ∨ r + 1 ≤ cntB (fun i => decide (x r i = P i)) n := by
    intro r
    induction r with
    | zero =>
      by_cases hn : n = 0
      · left; omega
      · by_cases ha : ∀ i, i < n → ¬ x 0 i = P i
        · have := grow (fun _ => false) 0 (fun u v c _ h => by cases h) (fun i hi _ => by have h1 := ha i hi; have h2 := hle 0 i hi; omega) 0 (by omega)
          cases this
        · obtain ⟨i, h⟩ := Classical.not_forall.1 ha
          obtain ⟨hi, h⟩ := Classical.not_imp.1 h
          right
          have h0 : cntB (fun _ => false) n = 0 := by
            have : ∀ m, cntB (fun _ => false) m = 0 := by
              intro m
              induction m with
              | zero => rfl
              | succ m ih => unfold cntB; rw [ih]; rfl
            exact this n
          have := cntB_lt (p := fun _ => false) (q := fun i => decide (x 0 i = P i)) n (fun _ _ h => by cases h) ⟨i, hi, by simpa using Classical.not_not.1 h, rfl⟩
          omega
    | succ r ih =>
      have hm : ∀ i, i < n → decide (x r i = P i) = true → decide (x (r + 1) i = P i) = true := by
        intro i hi h
        have h1 := of_decide_eq_true h
        have h2 := H.le r i hi
        have h3 := hle (r + 1) i hi
        exact decide_eq_true (by omega)
      by_cases hs : ∃ i, i < n ∧ decide (x (r + 1) i = P i) = true ∧ decide (x r i = P i) = false
      · have := cntB_lt n hm hs
        omega
      · left
        have hb : ∀ i, i < n → decide (x (r + 1) i = P i) = true → decide (x r i = P i) = true := by
          intro i hi h
          cases hc : decide (x r i = P i)
          · exact absurd ⟨i, hi, h, hc⟩ hs
          · rfl
        have ha := grow (fun i => decide (x (r + 1) i = P i)) (r + 1) (fun u v c hc hu hv => by
          obtain ⟨hu', hv'⟩ := H.dom u v c hc
          have h1 := H.step r u v c hc
          have h2 := of_decide_eq_true (hb u hu' hu)
          have h3 := of_decide_eq_false hv
          have h4 := hle (r + 1) v hv'
          omega) (fun i hi h => by
          have h3 := of_decide_eq_false h
          have h4 := hle (r + 1) i hi
          have h5 := H.anti (Nat.zero_le (r + 1)) hi
          omega)
        have hc : cntB (fun i => decide (x (r + 1) i = P i)) n = n := by
          have h0 : ∀ m, m ≤ n → cntB (fun i => decide (x (r + 1) i = P i)) m = m := by
            intro m
            induction m with
            | zero => exact fun _ => rfl
            | succ m ih => intro hm; unfold cntB; rw [ih (by omega), if_pos (ha m (by omega))]
          exact h0 n (Nat.le_refl _)
        omega
  intro r hr i hi
  have := cntB_all (p := fun i => decide (x r i = P i)) n (by have := count r; omega) i hi
  exact of_decide_eq_true this
end Go.Proofs.YtbddkmlfjghllaaGreatDoor
