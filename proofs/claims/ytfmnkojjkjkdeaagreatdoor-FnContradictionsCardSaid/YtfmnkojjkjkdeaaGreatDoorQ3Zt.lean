/- Texts merged (a claim holds at most sixty files): Zt, Yk. -/
import Derived.Test.YtfmnkojjkjkdeaaGreatDoorQ3Zs
import Derived.Test.YtfmnkojjkjkdeaaGreatDoorQ3Ha
/- Plain: statements given up, conflicts and repairs, by days. -/
namespace Go.Proofs.YtfmnkojjkjkdeaaGreatDoor
set_option linter.unusedVariables false
set_option linter.unusedSimpArgs false

/-- days that fulfil all statements but those of is -/
structure SolG (is : Nat → Prop) (n : Net) (ds : List Int) : Prop where
  len : ds.length = n.sets.length
  day : ∀ i, i < n.sets.length → DayOk (inAt ds i)
  sets : ∀ i, i < n.sets.length → ¬ is i → HasDay (setAt n.sets i) (inAt ds i)
  links : ∀ j, j < n.links.length → ¬ is (n.sets.length + j) → Holds (lkAt n.links j) ds
theorem SolG.mono {is js : Nat → Prop} {n : Net} {ds : List Int} (h : SolG is n ds) (hm : ∀ i, is i → js i) : SolG js n ds :=
  ⟨h.len, h.day, fun i hi hn => h.sets i hi (fun hh => hn (hm i hh)), fun j hj hn => h.links j hj (fun hh => hn (hm _ hh))⟩
theorem lkAt_end (l : List Lk) (x : Lk) {i : Nat} (hi : i < l.length + 1) : lkAt (l ++ [x]) i = if i = l.length then x else lkAt l i := by
  unfold lkAt
  rw [List.getD_eq_getElem?_getD, List.getD_eq_getElem?_getD]
  by_cases h2 : i = l.length
  · subst h2; simp
  · rw [if_neg h2, List.getElem?_append_left (by omega)]
theorem gvL_holds {is : Nat → Prop} {N : Nat} {l : List Lk} {ds : List Int} : ∀ j, (∀ i, i < (gvL is N l j).length → Holds (lkAt (gvL is N l j) i) ds) ↔ ∀ i, i < j → ¬ is (N + i) → Holds (lkAt l i) ds
  | 0 => ⟨fun _ i hi => absurd hi (by omega), fun _ i hi => absurd hi (by simp [gvL])⟩
  | j + 1 => by
    have ih := gvL_holds (is := is) (N := N) (l := l) (ds := ds) j
    by_cases h : is (N + j)
    · rw [gvL_yes h, ih]
      constructor
      · intro hh i hi hn
        by_cases e : i = j
        · subst e; exact absurd h hn
        · exact hh i (by omega) hn
      · exact fun hh i hi hn => hh i (by omega) hn
    · rw [gvL_no h]
      constructor
      · intro hh i hi hn
        by_cases e : i = j
        · subst e
          have h1 := hh (gvL is N l i).length (by simp)
          rw [lkAt_end _ _ (by omega), if_pos rfl] at h1
          exact h1
        · refine ih.1 (fun i' hi' => ?_) i (by omega) hn
          have h1 := hh i' (by simp; omega)
          rw [lkAt_end _ _ (by omega), if_neg (by omega)] at h1
          exact h1
      · intro hh i hi
        rw [lkAt_end _ _ (by simpa using hi)]
        split
        · exact hh j (by omega) h
        · exact ih.2 (fun i hi hn => hh i (by omega) hn) i (by simp at hi; omega)
theorem all_has {d : Int} (h : DayOk d) : HasDay allDays d := ⟨0, by simp [allDays], h.1, h.2⟩
theorem give_sol {is : Nat → Prop} {n : Net} (h : NetOk n) : Sol (giveN is n) ↔ ∃ ds, SolG is n ds := by
  have hg := giveN_ok (is := is) h
  have hns : (giveN is n).sets.length = n.sets.length := gvS_len is n.sets _
  rw [sol_days hg.2.2.2]
  constructor
  · rintro ⟨ds, h1, h2⟩
    rw [hns] at h1
    refine ⟨ds, h1, fun i hi => ?_, fun i hi hn => ?_, fun j hj hn => ?_⟩
    · exact (hg.2.2.1 i (by rw [hns]; exact hi)).d.day (h2.1 i (by omega))
    · have h3 := h2.1 i (by omega)
      have e : setAt (giveN is n).sets i = bif B (is i) then allDays else setAt n.sets i := gvS_at is n.sets _ i hi
      rw [e, B_false hn] at h3
      exact h3
    · exact (gvL_holds n.links.length).1 h2.2 j hj hn
  · rintro ⟨ds, h2⟩
    refine ⟨ds, by rw [hns]; exact h2.len, fun i hi => ?_, (gvL_holds n.links.length).2 h2.links⟩
    have hi' : i < n.sets.length := by rw [h2.len] at hi; exact hi
    have e : setAt (giveN is n).sets i = bif B (is i) then allDays else setAt n.sets i := gvS_at is n.sets _ i hi'
    rw [e]
    by_cases hn : is i
    · rw [B_true hn]; exact all_has (h2.day i hi')
    · rw [B_false hn]; exact h2.sets i hi' hn
theorem conB_true {n : Net} (h : NetOk n) {l : List Int} : conB n l = true ↔ ¬ ∃ ds, SolG (fun i => ¬ HasI l i) n ds := by
  unfold conB
  rw [B_congr (give_sol h)]
  cases hb : B (∃ ds, SolG (fun i => ¬ HasI l i) n ds)
  · exact ⟨fun _ hh => (by rw [B_true hh] at hb; cases hb), fun _ => rfl⟩
  · exact ⟨fun hh => (by cases hh), fun hh => absurd (B_iff.1 hb) hh⟩
theorem conB_mono {n : Net} (h : NetOk n) {a b : List Int} (hs : ∀ x, x ∈ a → x ∈ b) (hc : conB n a = true) : conB n b = true := by
  rw [conB_true h] at hc ⊢
  rintro ⟨ds, hd⟩
  refine hc ⟨ds, hd.mono (fun i hi hh => hi ?_)⟩
  rw [hasI_mem] at hh ⊢
  exact hs _ hh
theorem repB_true {n : Net} (h : NetOk n) {l : List Int} : repB n l = true ↔ ∃ ds, SolG (fun i => HasI l i) n ds := by
  unfold repB
  rw [B_iff, give_sol h]
/-- a conflict and a repair share a statement -/
theorem share {n : Net} (h : NetOk n) {a b : List Int} (hc : conB n a = true) (hr : repB n b = true) : ∃ x, x ∈ a ∧ x ∈ b := by
  apply Classical.byContradiction
  intro hn
  rw [conB_true h] at hc
  obtain ⟨ds, hd⟩ := (repB_true h).1 hr
  refine hc ⟨ds, hd.mono (fun i hi hh => ?_)⟩
  rw [hasI_mem] at hi hh
  exact hn ⟨_, hh, hi⟩
/-! ### the conflict that is found -/
def Asc (l : List Int) : Prop := ∀ i, 0 < i → i < l.length → inAt l (i - 1) < inAt l i
theorem inAt_end (l : List Int) (x : Int) {i : Nat} (hi : i < l.length + 1) : inAt (l ++ [x]) i = if i = l.length then x else inAt l i := by
  unfold inAt
  rw [List.getD_eq_getElem?_getD, List.getD_eq_getElem?_getD]
  by_cases h2 : i = l.length
  · subst h2; simp
  · rw [if_neg h2, List.getElem?_append_left (by omega)]
theorem inAt_mem {l : List Int} {i : Nat} (h : i < l.length) : inAt l i ∈ l := by
  unfold inAt
  rw [List.getD_eq_getElem?_getD, List.getElem?_eq_getElem h]
  exact List.getElem_mem h
theorem mem_inAt {l : List Int} {x : Int} (h : x ∈ l) : ∃ i, i < l.length ∧ inAt l i = x := hasI_mem.2 h
theorem Asc.push {l : List Int} {x : Int} (h : Asc l) (hx : ∀ y, y ∈ l → y < x) : Asc (l ++ [x]) := by
  intro i h0 hi
  have hi' : i < l.length + 1 := by simpa using hi
  rw [inAt_end _ _ (by omega), inAt_end _ _ hi', if_neg (by omega)]
  split
  · exact hx _ (inAt_mem (by omega))
  · exact h i h0 (by omega)
theorem kept_asc (n : Net) : ∀ k, Asc (kept n k)
  | 0 => fun i _ hi => absurd hi (by simp [kept])
  | k + 1 => by
    show Asc (bif conB n (kept n k ++ rgI (k + 1) (allS n - (k + 1))) then kept n k else kept n k ++ [(k : Int)])
    cases conB n (kept n k ++ rgI (k + 1) (allS n - (k + 1)))
    · exact (kept_asc n k).push (fun y hy => (kept_mem n k y hy).2)
    · exact kept_asc n k
theorem Asc.lt {l : List Int} (h : Asc l) {i : Nat} : ∀ k, i < k → k < l.length → inAt l i < inAt l k
  | 0, h1, _ => absurd h1 (by omega)
  | k + 1, h1, h2 => by
    have h3 := h (k + 1) (by omega) h2
    rw [show k + 1 - 1 = k by omega] at h3
    by_cases e : i = k
    · subst e; exact h3
    · have := Asc.lt (i := i) h k (by omega) (by omega)
      omega
theorem erase_mem {l : List Int} (h : Asc l) {i : Nat} (hi : i < l.length) {x : Int} (hx : x ∈ l.eraseIdx i) : x ∈ l ∧ x ≠ inAt l i := by
  obtain ⟨k, hk, e⟩ := List.getElem_of_mem hx
  rw [List.length_eraseIdx] at hk
  have hk' : k < l.length - 1 := by simpa [hi] using hk
  rw [List.getElem_eraseIdx] at e
  split at e
  · rename_i hki
    have e2 : inAt l k = x := by
      unfold inAt
      rw [List.getD_eq_getElem?_getD, List.getElem?_eq_getElem (by omega)]
      exact e
    have := h.lt i hki hi
    exact ⟨by rw [← e]; exact List.getElem_mem _, by omega⟩
  · have e2 : inAt l (k + 1) = x := by
      unfold inAt
      rw [List.getD_eq_getElem?_getD, List.getElem?_eq_getElem (by omega)]
      exact e
    have := h.lt (i := i) (k + 1) (by omega) (by omega)
    exact ⟨by rw [← e]; exact List.getElem_mem _, by omega⟩
theorem out_con {n : Net} (hs : ¬ Sol n) : ∀ k, k ≤ allS n → conB n (outL n k) = true
  | 0, _ => by rw [outL_zero, conB_all, B_false hs]; rfl
  | k + 1, hk => by
    have ih := out_con hs k (by omega)
    cases hc : conB n ((outL n k).eraseIdx (kept n k).length)
    · rw [(outL_no (by omega) hc).1]; exact ih
    · rw [(outL_yes (by omega) hc).1]; exact hc
/-- what is kept at k stays, and what is kept later is not before k -/
theorem kept_more (n : Net) (k : Nat) : ∀ d x, x ∈ kept n (k + d) → x ∈ kept n k ∨ (k : Int) ≤ x
  | 0, _, h => .inl h
  | d + 1, x, h => by
    have h' : x ∈ (bif conB n (kept n (k + d) ++ rgI (k + d + 1) (allS n - (k + d + 1))) then kept n (k + d) else kept n (k + d) ++ [((k + d : Nat) : Int)]) := h
    cases hb : conB n (kept n (k + d) ++ rgI (k + d + 1) (allS n - (k + d + 1)))
    · rw [hb] at h'
      rcases List.mem_append.1 h' with h1 | h1
      · exact kept_more n k d x h1
      · have e : x = ((k + d : Nat) : Int) := by simpa using h1
        exact .inr (by omega)
    · rw [hb] at h'
      exact kept_more n k d x h'
theorem kept_why (n : Net) : ∀ m x, x ∈ kept n m → ∃ k, k < m ∧ x = (k : Int) ∧ conB n (kept n k ++ rgI (k + 1) (allS n - (k + 1))) = false
  | 0, x, h => by simp [kept] at h
  | m + 1, x, h => by
    have h' : x ∈ (bif conB n (kept n m ++ rgI (m + 1) (allS n - (m + 1))) then kept n m else kept n m ++ [(m : Int)]) := h
    cases hb : conB n (kept n m ++ rgI (m + 1) (allS n - (m + 1)))
    · rw [hb] at h'
      rcases List.mem_append.1 h' with h1 | h1
      · obtain ⟨k, h2, h3⟩ := kept_why n m x h1
        exact ⟨k, by omega, h3⟩
      · exact ⟨m, by omega, by simpa using h1, hb⟩
    · rw [hb] at h'
      obtain ⟨k, h2, h3⟩ := kept_why n m x h'
      exact ⟨k, by omega, h3⟩
theorem fc_conf {n : Net} (h : blE n [] = 0) (hs : ¬ Sol n) : fcE n = 0 ∧ blE n (fcL n) = 0 ∧ confV n (fcL n) = true := by
  obtain ⟨e1, e2⟩ := fc_ok h hs
  obtain ⟨hok, _, hbl⟩ := blE_zero h
  have hasc := kept_asc n (allS n)
  have hst : StmOk n (kept n (allS n)) := fun i hi => ⟨by
    have := kept_mem n (allS n) _ (inAt_mem hi)
    have e : ((allS n : Nat) : Int) = (n.sets.length : Int) + n.links.length := by unfold allS; omega
    omega, fun h0 => hasc i h0 hi⟩
  have hb : blE n (kept n (allS n)) = 0 := blE_ok (stm_ok hok hst) hbl
  rw [e2, outL_end]
  refine ⟨e1, hb, ?_⟩
  rw [confV_ok hb]
  have hc := out_con hs (allS n) (Nat.le_refl _)
  rw [outL_end] at hc
  refine B_true ⟨hc, fun i hi => ?_⟩
  obtain ⟨k, hk, e, hf⟩ := kept_why n _ _ (inAt_mem hi)
  cases hx : conB n ((kept n (allS n)).eraseIdx i)
  · rfl
  · rw [conB_mono hok (fun x hm => ?_) hx] at hf
    · exact hf
    · obtain ⟨h1, h2⟩ := erase_mem hasc hi hm
      rw [List.mem_append, mem_rgI]
      have h3 := kept_mem n _ _ h1
      have h4 := kept_more n k (allS n - k) x (by rw [show k + (allS n - k) = allS n by omega]; exact h1)
      rcases h4 with h4 | h4
      · exact .inl h4
      · exact .inr (by omega)
/-! ### the repair that is found -/
theorem nat_first {p : Nat → Prop} {N : Nat} (h : ∃ s, s < N ∧ p s) : ∃ s, s < N ∧ p s ∧ ∀ k, k < s → ¬ p k := by
  obtain ⟨i, h1, h2, h3⟩ := nat_least N h
  exact ⟨i, h1, h2, h3⟩
/-- the ways that the smallest repair goes -/
theorem sm_ways {n : Net} (h : blE n [] = 0) :
    (Sol n ∧ smE n = 0 ∧ smL n = []) ∨ (¬ Sol n ∧ smE n = 0 ∧ ∃ s : Nat, s < allS n ∧ smL n = [(s : Int)] ∧ Rep1 n s) ∨
      (¬ Sol n ∧ smE n = 0 ∧ ∃ s t : Nat, s < t ∧ t < allS n ∧ smL n = [(s : Int), (t : Int)] ∧ Rep2 n s t ∧ ∀ k, k < allS n → ¬ Rep1 n k) ∨ (¬ Sol n ∧ smE n = 4 ∧ smL n = []) := by
  by_cases hs : Sol n
  · exact .inl ⟨hs, (sm_sol h hs).1, (sm_sol h hs).2⟩
  · by_cases h1 : ∃ s, s < allS n ∧ Rep1 n s
    · obtain ⟨s, a, b, c⟩ := nat_first h1
      have := sm_one h hs a b c
      exact .inr (.inl ⟨hs, this.1, s, a, this.2, b⟩)
    · have h1' : ∀ k, k < allS n → ¬ Rep1 n k := fun k hk hr => h1 ⟨k, hk, hr⟩
      by_cases h2 : ∃ s, s < allS n ∧ RepP n s
      · obtain ⟨s, a, b, c⟩ := nat_first h2
        obtain ⟨t0, b1, b2, b3⟩ := b
        obtain ⟨t, d, e, f⟩ := nat_first (p := fun t => s < t ∧ Rep2 n s t) ⟨t0, b2, b1, b3⟩
        have := sm_two h hs h1' e.1 d e.2 c (fun k k1 k2 hr => f k k2 ⟨k1, hr⟩)
        exact .inr (.inr (.inl ⟨hs, this.1, s, t, e.1, d, this.2, e.2, h1'⟩))
      · have := sm_none h hs h1' (fun k hk hr => h2 ⟨k, hk, hr⟩)
        exact .inr (.inr (.inr ⟨hs, this.1, this.2⟩))
theorem bl_one {n : Net} (h : blE n [] = 0) {s : Nat} (hs : s < allS n) : blE n [(s : Int)] = 0 := by
  obtain ⟨hok, _, hbl⟩ := blE_zero h
  refine blE_ok (stm_ok hok (fun i hi => ?_)) hbl
  have e : i = 0 := by simp at hi; exact hi
  subst e
  unfold allS at hs
  exact ⟨⟨by show (0 : Int) ≤ (s : Int); omega, by show (s : Int) ≤ _; omega⟩, fun h0 => absurd h0 (by omega)⟩
theorem bl_two {n : Net} (h : blE n [] = 0) {s t : Nat} (hs : s < t) (ht : t < allS n) : blE n [(s : Int), (t : Int)] = 0 := by
  obtain ⟨hok, _, hbl⟩ := blE_zero h
  unfold allS at ht
  refine blE_ok (stm_ok hok (fun i hi => ?_)) hbl
  have hi' : i < 2 := hi
  match i, hi' with
  | 0, _ => exact ⟨⟨by show (0 : Int) ≤ (s : Int); omega, by show (s : Int) ≤ _; omega⟩, fun h0 => absurd h0 (by omega)⟩
  | 1, _ => exact ⟨⟨by show (0 : Int) ≤ (t : Int); omega, by show (t : Int) ≤ _; omega⟩, fun _ => by show (s : Int) < (t : Int); omega⟩
theorem sm_zero {n : Net} (h : smE n = 0) : blE n [] = 0 := Classical.byContradiction (fun hh => by rw [(sm_code hh).1] at h; exact hh h)
/-- the smallest repair is one; with one statement less it is none -/
theorem sm_law {n : Net} (h : smE n = 0) : blE n (smL n) = 0 ∧ isRepV n (smL n) = true ∧ (smL n).length ≤ 2 ∧ (smL n ≠ [] → blE n (smL n).tail = 0 ∧ isRepV n (smL n).tail = false) := by
  have h0 := sm_zero h
  rcases sm_ways h0 with ⟨hs, _, e⟩ | ⟨hs, _, s, hsl, e, hr⟩ | ⟨hs, _, s, t, hst, ht, e, hr, h1⟩ | ⟨_, e, _⟩
  · rw [e]
    exact ⟨h0, by rw [isRepV_ok h0, repB_nil, B_true hs], by simp, fun hh => absurd rfl hh⟩
  · rw [e]
    refine ⟨bl_one h0 hsl, by rw [isRepV_ok (bl_one h0 hsl)]; exact hr, by simp, fun _ => ⟨h0, ?_⟩⟩
    show isRepV n [] = false
    rw [isRepV_ok h0, repB_nil, B_false hs]
  · rw [e]
    refine ⟨bl_two h0 hst ht, by rw [isRepV_ok (bl_two h0 hst ht)]; exact hr, by simp, fun _ => ⟨bl_one h0 ht, ?_⟩⟩
    show isRepV n [(t : Int)] = false
    rw [isRepV_ok (bl_one h0 ht)]
    cases hb : repB n [(t : Int)]
    · rfl
    · exact absurd hb (h1 t ht)
  · omega
/-- a conflict that is found and the repair share a statement -/
theorem top_share {n : Net} (hs : ¬ Sol n) (hr : smE n = 0) : ∃ i, i < (fcL n).length ∧ HasI (smL n) (inAt (fcL n) i) := by
  have h0 := sm_zero hr
  have hok := (blE_zero h0).1
  obtain ⟨e1, e2⟩ := fc_ok h0 hs
  have hc := out_con hs (allS n) (Nat.le_refl _)
  obtain ⟨h1, h2, _⟩ := sm_law hr
  rw [isRepV_ok h1] at h2
  obtain ⟨x, hx1, hx2⟩ := share hok hc h2
  rw [← e2] at hx1
  obtain ⟨i, hi, e⟩ := mem_inAt hx1
  exact ⟨i, hi, by rw [e]; exact hasI_mem.2 hx2⟩
theorem bl_lim {n : Net} (h : NetOk n) : blE n [] = 0 ∨ blE n [] = 3 := by
  have hs : stmE n [] = 0 := stm_ok h (fun i hi => absurd hi (by simp))
  by_cases h2 : blN n ≤ 256
  · exact .inl (blE_ok hs h2)
  · exact .inr (blE_big hs h2)
end Go.Proofs.YtfmnkojjkjkdeaaGreatDoor

/- Plain: what the law FnContradictions asks. -/
namespace Go.Proofs.YtfmnkojjkjkdeaaGreatDoor
set_option linter.unusedVariables false
set_option linter.unusedSimpArgs false

theorem dispTo_at (n : Net) : ∀ k i, i < (dispTo n k).length → ∃ s : Nat, inAt (dispTo n k) i = (s : Int) ∧ s < k ∧ Rep1 n s
  | 0, i, h => absurd h (by simp [dispTo])
  | k + 1, i, h => by
    by_cases hr : Rep1 n k
    · rw [dispTo_yes hr] at h ⊢
      rw [inAt_end _ _ (by simpa using h)]
      split
      · exact ⟨k, rfl, by omega, hr⟩
      · obtain ⟨s, a, b, c⟩ := dispTo_at n k i (by simp at h; omega)
        exact ⟨s, a, by omega, c⟩
    · rw [dispTo_no hr] at h ⊢
      obtain ⟨s, a, b, c⟩ := dispTo_at n k i h
      exact ⟨s, a, by omega, c⟩
/-- what is disputed is a repair -/
theorem disp_law {n : Net} (h : blE n [] = 0) {i : Nat} (hi : i < (dispL n).length) : blE n [inAt (dispL n) i] = 0 ∧ isRepV n [inAt (dispL n) i] = true := by
  rw [dispL_ok h] at hi ⊢
  obtain ⟨s, e, hs, hr⟩ := dispTo_at n (allS n) i hi
  rw [e]
  have hb := bl_one h hs
  exact ⟨hb, by rw [isRepV_ok hb]; exact hr⟩
theorem inAt_erase (l : List Int) (i j : Nat) : inAt (l.eraseIdx i) j = if j < i then inAt l j else inAt l (j + 1) := by
  unfold inAt
  rw [List.getD_eq_getElem?_getD, List.getElem?_eraseIdx]
  split <;> rw [List.getD_eq_getElem?_getD]
theorem stm_erase {n : Net} {l : List Int} (h : StmOk n l) {i : Nat} (hi : i < l.length) : StmOk n (l.eraseIdx i) := by
  intro j hj
  have hl : (l.eraseIdx i).length = l.length - 1 := by rw [List.length_eraseIdx, if_pos hi]
  rw [inAt_erase]
  refine ⟨?_, fun h0 => ?_⟩
  · split
    · exact (h j (by omega)).1
    · exact (h (j + 1) (by omega)).1
  · rw [inAt_erase]
    by_cases e : j < i
    · rw [if_pos e, if_pos (by omega)]
      exact (h j (by omega)).2 h0
    · rw [if_neg e]
      by_cases e2 : j - 1 < i
      · rw [if_pos e2]
        have a := (h j (by omega)).2 h0
        have b := (h (j + 1) (by omega)).2 (by omega)
        rw [show j + 1 - 1 = j by omega] at b
        omega
      · rw [if_neg e2, show j - 1 + 1 = j by omega]
        have b := (h (j + 1) (by omega)).2 (by omega)
        rw [show j + 1 - 1 = j by omega] at b
        exact b
/-- a conflict contradicts, and no part of it does -/
theorem con_law {n : Net} {l : List Int} (h : blE n l = 0) (hc : confV n l = true) : doConV n l = true ∧ ∀ i, i < l.length → blE n (l.eraseIdx i) = 0 ∧ doConV n (l.eraseIdx i) = false := by
  rw [confV_ok h, B_iff] at hc
  obtain ⟨h1, h2⟩ := hc
  obtain ⟨b1, b2, b3⟩ := blE_zero h
  refine ⟨by rw [doConV_ok h]; exact h1, fun i hi => ?_⟩
  have hb := blE_ok (stm_ok b1 (stm_erase b2 hi)) b3
  exact ⟨hb, by rw [doConV_ok hb]; exact h2 i hi⟩
end Go.Proofs.YtfmnkojjkjkdeaaGreatDoor
