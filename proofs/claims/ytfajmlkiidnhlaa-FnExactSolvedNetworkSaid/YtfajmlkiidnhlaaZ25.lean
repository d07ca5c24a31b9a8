/- Texts merged: a claim holds at most sixty files. -/
import Derived.Test.YtfajmlkiidnhlaaZ18
import Derived.Test.YtfajmlkiidnhlaaZ24
import Derived.Test.YtfajmlkiidnhlaaZ06
import Derived.Test.YtfajmlkiidnhlaaZ08
import Derived.Test.YtfajmlkiidnhlaaZ23
/- Plain: a network has a solution exactly if there are days that solve it; what the first solution is. -/
namespace Go.Proofs.Ytfajmlkiidnhlaa
set_option linter.unusedVariables false
set_option linter.unusedSimpArgs false

theorem feas_holds {ls : List Lk} {p : Nat → Int} : Feas (LkC ls) p ↔ ∀ j, j < ls.length → (lkAt ls j).le ≤ p (lkAt ls j).af.toNat - p (lkAt ls j).be.toNat ∧ p (lkAt ls j).af.toNat - p (lkAt ls j).be.toNat ≤ (lkAt ls j).mo := by
  constructor
  · intro h j hj
    have h1 := h (lkAt ls j).be.toNat (lkAt ls j).af.toNat (lkAt ls j).mo ⟨j, hj, .inl ⟨rfl, rfl, rfl⟩⟩
    have h2 := h (lkAt ls j).af.toNat (lkAt ls j).be.toNat (-(lkAt ls j).le) ⟨j, hj, .inr ⟨rfl, rfl, rfl⟩⟩
    omega
  · rintro h u v c ⟨j, hj, ⟨rfl, rfl, rfl⟩ | ⟨rfl, rfl, rfl⟩⟩
    · have := h j hj; omega
    · have := h j hj; omega
theorem inAt_range {N : Nat} {p : Nat → Int} {i : Nat} (h : i < N) : inAt ((List.range N).map p) i = p i := by
  unfold inAt
  rw [List.getD_eq_getElem?_getD, List.getElem?_map, List.getElem?_range h]
  rfl
theorem isCh_of_days : ∀ (l : List (List Sp)) (p : Nat → Int), (∀ i, i < l.length → HasDay (setAt l i) (p i)) → ∃ c, IsCh l c ∧ ∀ i, i < c.length → (spAt c i).fr ≤ p i ∧ p i ≤ (spAt c i).to
  | [], p, _ => ⟨[], trivial, fun i hi => absurd hi (by simp)⟩
  | s :: r, p, h => by
    obtain ⟨k, hk, h1, h2⟩ := h 0 (by simp)
    obtain ⟨c, hc, hp⟩ := isCh_of_days r (fun i => p (i + 1)) (fun i hi => h (i + 1) (by simp; omega))
    refine ⟨spAt s k :: c, ⟨spAt_mem hk, hc⟩, fun i hi => ?_⟩
    match i, hi with
    | 0, _ => exact ⟨h1, h2⟩
    | i + 1, hi => exact hp i (by simpa using hi)
theorem chSol_days {n : Net} {ch : List Sp} {p : Nat → Int} (h1 : IsCh n.sets ch) (h : ChSol n.links ch p) {i : Nat} (hi : i < n.sets.length) : HasDay (setAt n.sets i) (p i) := by
  obtain ⟨h2, h3⟩ := h
  have hil : i < ch.length := by rw [h1.len]; exact hi
  obtain ⟨k, hk, e⟩ := mem_spAt (h1.mem i hil)
  exact ⟨k, hk, by rw [e]; exact (h3 i hil).1, by rw [e]; exact (h3 i hil).2⟩
theorem sol_of_days {n : Net} {ds : List Int} (hl : ds.length = n.sets.length) (h : Solves n ds) : Sol n := by
  obtain ⟨c, hc, hp⟩ := isCh_of_days n.sets (inAt ds) (fun i hi => h.1 i (by omega))
  exact ⟨c, hc, inAt ds, feas_holds.2 (fun j hj => h.2 j hj), hp⟩
theorem sol_days {n : Net} (hk : LksOk n.links n.sets.length) : Sol n ↔ ∃ ds : List Int, ds.length = n.sets.length ∧ Solves n ds := by
  constructor
  · rintro ⟨ch, h1, p, h⟩
    refine ⟨(List.range n.sets.length).map p, by simp, fun i hi => ?_, fun j hj => ?_⟩
    · have hi' : i < n.sets.length := by simpa using hi
      rw [inAt_range hi']
      exact chSol_days h1 h hi'
    · obtain ⟨⟨a1, a2⟩, ⟨b1, b2⟩, _⟩ := hk j hj
      have := feas_holds.1 h.1 j hj
      unfold Holds
      rw [inAt_range (by omega), inAt_range (by omega)]
      exact this
  · rintro ⟨ds, h1, h2⟩
    exact sol_of_days h1 h2
/-- the best of the solutions solves -/
theorem best_solves {n : Net} (hk : LksOk n.links n.sets.length) (hs : Sol n) : ∃ m, bestL (lows n.links (allCh n.sets [])) = some m ∧ m.length = n.sets.length ∧ Solves n m := by
  have h0 : okCh n.links (allCh n.sets []) ≠ [] := (sol_okCh n).1 hs
  have hlen : ∀ x, x ∈ lows n.links (allCh n.sets []) → x.length = n.sets.length := by
    intro x hx
    obtain ⟨c, hc, e⟩ := List.mem_map.1 hx
    rw [← e, lowV_len]
    exact mem_allCh_len (mem_okCh.1 hc).1
  obtain ⟨m, e, hm, _⟩ := best_some hlen (fun hh => h0 (List.map_eq_nil_iff.1 hh))
  obtain ⟨c, hc, rfl⟩ := List.mem_map.1 hm
  obtain ⟨hc1, hc2⟩ := mem_okCh.1 hc
  obtain ⟨t, ht, e2⟩ := mem_allCh.1 hc1
  have e2' : c = t := e2
  subst e2'
  have hcl := ht.len
  have hlow := (hc2.low (by rw [hcl]; exact hk)).1
  refine ⟨_, e, hlen _ hm, fun i hi => ?_, fun j hj => feas_holds.1 hlow.1 j hj⟩
  rw [lowV_len, hcl] at hi
  exact chSol_days ht hlow hi
/-! ### narrowing leaves out no solution -/
theorem nar1_in {n : Net} {l : Lk} {ds : List Int} (h : NetD n) (hl : LkOk l n.sets.length) (hd : ds.length = n.sets.length) (hs : InSets n ds) (hh : Holds l ds) : InSets (nar1 n l) ds := by
  intro i hi
  show HasDay (setAt (n.sets.set l.af.toNat (partN n l true)) i) _
  rw [setAt_put]
  split
  · rename_i hc
    obtain ⟨⟨a1, a2⟩, ⟨b1, b2⟩, _⟩ := hl
    rw [hc.1]
    exact ((partN_d true h ⟨⟨a1, a2⟩, ⟨b1, b2⟩, by assumption⟩).2 _).2 ⟨hs l.af.toNat (by omega), inAt ds l.be.toNat, hs l.be.toNat (by omega), hh.1, hh.2⟩
  · exact hs i hi
theorem nar2_in {n : Net} {l : Lk} {ds : List Int} (h : NetD n) (hl : LkOk l n.sets.length) (hd : ds.length = n.sets.length) (hs : InSets n ds) (hh : Holds l ds) : InSets (nar2 n l) ds := by
  intro i hi
  show HasDay (setAt (n.sets.set l.be.toNat (partN n l false)) i) _
  rw [setAt_put]
  split
  · rename_i hc
    obtain ⟨⟨a1, a2⟩, ⟨b1, b2⟩, _⟩ := hl
    rw [hc.1]
    refine ((partN_d false h ⟨⟨a1, a2⟩, ⟨b1, b2⟩, by assumption⟩).2 _).2 ⟨hs l.be.toNat (by omega), inAt ds l.af.toNat, hs l.af.toNat (by omega), ?_, ?_⟩
    · have := hh.2
      show -l.mo ≤ _
      omega
    · have := hh.1
      show _ ≤ -l.le
      omega
  · exact hs i hi
theorem narL_in {n : Net} {l : Lk} {ds : List Int} (h : NetD n) (hl : LkOk l n.sets.length) (hd : ds.length = n.sets.length) (hs : InSets n ds) (hh : Holds l ds) : InSets (narL n l) ds := by
  obtain ⟨h1, h2⟩ := nar1_ok h hl
  exact nar2_in h1 (by rw [h2.ns]; exact hl) (by rw [h2.ns]; exact hd) (nar1_in h hl hd hs hh) hh
theorem narTo_in {n : Net} {ls : List Lk} {ds : List Int} (h : NetD n) (hl : ∀ i, i < ls.length → LkOk (lkAt ls i) n.sets.length) (hd : ds.length = n.sets.length) (hs : InSets n ds) (hh : ∀ i, i < ls.length → Holds (lkAt ls i) ds) : ∀ j, j ≤ ls.length → InSets (narTo n ls j) ds
  | 0, _ => hs
  | j + 1, hj => by
    obtain ⟨h1, h2⟩ := narTo_ok h hl j (by omega)
    exact narL_in h1 (by rw [h2.ns]; exact hl j (by omega)) (by rw [h2.ns]; exact hd) (narTo_in h hl hd hs hh j (by omega)) (hh j (by omega))
theorem narR_solves {n : Net} {ds : List Int} (h : NetD n) (hd : ds.length = n.sets.length) (hs : Solves n ds) : Solves (narR n) ds :=
  ⟨narTo_in h h.lks hd hs.1 hs.2 _ (Nat.le_refl _), by intro j hj; rw [(narR_ok h).2.lk] at hj ⊢; exact hs.2 j hj⟩
theorem itR_solves {n : Net} {ds : List Int} (h : NetD n) (hd : ds.length = n.sets.length) (hs : Solves n ds) : ∀ k, Solves (itR n k) ds
  | 0 => hs
  | k + 1 => by
    obtain ⟨h1, h2⟩ := itR_ok h k
    exact narR_solves h1 (by rw [h2.ns]; exact hd) (itR_solves h hd hs k)
theorem day_ok {n : Net} {ds : List Int} (h : NetOk n) (hd : ds.length = n.sets.length) (hs : InSets n ds) : dayE n ds = 0 :=
  dayE_ok h ⟨hd, fun i hi => by
    obtain ⟨d1, d2⟩ := (h.2.2.1 i (by omega)).d.day (hs i hi)
    unfold DayOk
    omega⟩
theorem solvB_ok {n : Net} {ds : List Int} (h : NetOk n) (hd : ds.length = n.sets.length) (hs : Solves n ds) : solvB n ds = true := B_true ⟨day_ok h hd hs.1, hs⟩
/-! ### the narrowing law -/
theorem Goes.lim {n : Net} {k : Nat} (ho : NetOk n) (h : Goes n k) : NetOk (itR n k) := by
  match k with
  | 0 => exact ho
  | k + 1 => exact (netOk_iff (itR_ok ho.d (k + 1)).1).2 (h k (by omega)).2
theorem nrE_zero {n : Net} (h : nrE n = 0) : NetOk n ∧ NetOk (narR n) ∧ nrV n = narR n := by
  have ho : NetOk n := Classical.byContradiction (fun hh => by rw [(nr_no hh).2] at h; omega)
  rw [(nr_ok ho).2] at h
  have hl : Lim (narR n) := Classical.byContradiction (fun hh => by rw [(lim_no hh).1] at h; omega)
  exact ⟨ho, (netOk_iff (narR_ok ho.d).1).2 hl, by rw [(nr_ok ho).1, (lim_yes hl).2]⟩
theorem nr_lost {n : Net} (h : nrE n = 0) : lostE n (nrV n) = 0 ∧ 0 ≤ lostV n (nrV n) ∧ isnE n = 0 ∧ isnV n = (lostV n (nrV n) == 0) := by
  obtain ⟨h1, h2, h3⟩ := nrE_zero h
  obtain ⟨h4, h5⟩ := narR_ok h1.d
  obtain ⟨e1, e2⟩ := lost_ok ⟨h1, h2⟩ h5.ns.symm
  have hd := netDays_eq h4 h1.d h5
  have hle : netDays (narR n).sets ≤ netDays n.sets := by
    have := (netDaysTo_sub h4.sets h1.d.sets h5.ns h5.day n.sets.length (Nat.le_refl _)).1
    unfold netDays
    rw [h5.ns]
    exact this
  rw [h3, e1, e2, (isn_ok h1).1, (isn_ok h1).2]
  refine ⟨rfl, by omega, rfl, ?_⟩
  symm
  refine B_eq ?_
  rw [beq_iff_eq]
  exact ⟨fun e => hd.1 (by omega), fun e => by have := hd.2 e; omega⟩
theorem na_zero {n : Net} (h : naE n = 0) : NetOk n ∧ ∃ k, Stops n k ∧ naV n = itR n k ∧ naC n = k := by
  have ho : NetOk n := Classical.byContradiction (fun hh => by rw [(na_inv hh).2.2] at h; omega)
  by_cases h2 : ∃ k, Stops n k
  · obtain ⟨k, hk⟩ := h2
    exact ⟨ho, k, hk, (na_yes ho hk).1, (na_yes ho hk).2.1⟩
  · rw [(na_no ho h2).2.2] at h; omega
theorem sub_days {m n : Net} (hm : NetD m) (hn : NetD n) (h : Sub m n) : netDays m.sets ≤ netDays n.sets := by
  have := (netDaysTo_sub hm.sets hn.sets h.ns h.day n.sets.length (Nat.le_refl _)).1
  unfold netDays
  rw [h.ns]
  exact this
theorem itR_first {n : Net} (h : NetD n) : ∀ k, netDays (itR n (k + 1)).sets ≤ netDays (narR n).sets
  | 0 => Int.le_refl _
  | k + 1 => by
    obtain ⟨h1, h2⟩ := itR_ok h (k + 1)
    obtain ⟨h3, h4⟩ := narR_ok h1
    exact Int.le_trans (sub_days h3 h1 h4) (itR_first h k)
theorem na_law {n : Net} (h : naE n = 0) : isnE (naV n) = 0 ∧ isnV (naV n) = true ∧ lostE n (naV n) = 0 ∧ 0 ≤ lostV n (naV n) ∧ (lostV n (naV n) == 0) = (naC n == 0) := by
  obtain ⟨ho, k, hk, e1, e2⟩ := na_zero h
  have hok := Goes.lim ho hk.2.1
  obtain ⟨h1, h2⟩ := itR_ok ho.d k
  obtain ⟨l1, l2⟩ := lost_ok ⟨ho, hok⟩ h2.ns.symm
  have hle := sub_days h1 ho.d h2
  rw [e1, e2, (isn_ok hok).1, (isn_ok hok).2, l1, l2]
  refine ⟨rfl, B_true hk.2.2, rfl, by omega, ?_⟩
  rw [Bool.eq_iff_iff, beq_iff_eq, beq_iff_eq]
  match k, hk with
  | 0, _ => show (netDays n.sets - netDays n.sets = 0) ↔ _; omega
  | k + 1, hk =>
    have hnf := (hk.2.1 0 (by omega)).1
    obtain ⟨r1, r2⟩ := narR_ok ho.d
    have hlt : netDays (narR n).sets ≠ netDays n.sets := fun e => hnf ((netDays_eq r1 ho.d r2).1 e)
    have h3 := sub_days r1 ho.d r2
    have h4 := itR_first ho.d k
    omega
end Go.Proofs.Ytfajmlkiidnhlaa

/- Plain: possible days; the solved network. -/
namespace Go.Proofs.Ytfajmlkiidnhlaa
set_option linter.unusedVariables false
set_option linter.unusedSimpArgs false

/-- the days of a variable in a choice -/
def sAt (n : Net) (i : Nat) (c : List Sp) : Sp := ⟨inAt (lowV n.links c) i, inAt (highV n.links c) i⟩
def Known (l : List Sp) (s : Sp) : Prop := ∃ j, j < l.length ∧ (spAt l j).fr ≤ s.fr ∧ s.to ≤ (spAt l j).to
/-- the reference's list of a variable, the choices below k -/
noncomputable def psTo (n : Net) (i : Nat) : Nat → List Sp
  | 0 => []
  | k + 1 => bif B (ChOk n.links (chN n.sets k) ∧ ¬ Known (psTo n i k) (sAt n i (chN n.sets k))) then psTo n i k ++ [sAt n i (chN n.sets k)] else psTo n i k
theorem psTo_yes {n : Net} {i k : Nat} (h : ChOk n.links (chN n.sets k)) (h2 : ¬ Known (psTo n i k) (sAt n i (chN n.sets k))) : psTo n i (k + 1) = psTo n i k ++ [sAt n i (chN n.sets k)] := by
  show (bif B (ChOk n.links (chN n.sets k) ∧ ¬ Known (psTo n i k) (sAt n i (chN n.sets k))) then _ else _) = _
  rw [B_true ⟨h, h2⟩]; rfl
theorem psTo_no {n : Net} {i k : Nat} (h : ¬ (ChOk n.links (chN n.sets k) ∧ ¬ Known (psTo n i k) (sAt n i (chN n.sets k)))) : psTo n i (k + 1) = psTo n i k := by
  show (bif B (ChOk n.links (chN n.sets k) ∧ ¬ Known (psTo n i k) (sAt n i (chN n.sets k))) then _ else _) = _
  rw [B_false h]; rfl
/-- the program's list of a variable -/
noncomputable def imL (n : Net) (i : Nat) (l : List (List Sp)) : List Sp := (okCh n.links l).map (sAt n i)
theorem spAt_end (l : List Sp) (x : Sp) {i : Nat} (hi : i < l.length + 1) : spAt (l ++ [x]) i = if i = l.length then x else spAt l i := by
  unfold spAt
  rw [List.getD_eq_getElem?_getD, List.getD_eq_getElem?_getD]
  by_cases h2 : i = l.length
  · subst h2; simp
  · rw [if_neg h2, List.getElem?_append_left (by omega)]
theorem hasDay_mem {l : List Sp} {d : Int} : HasDay l d ↔ ∃ s, s ∈ l ∧ s.fr ≤ d ∧ d ≤ s.to := by
  constructor
  · rintro ⟨i, hi, a, b⟩
    exact ⟨_, spAt_mem hi, a, b⟩
  · rintro ⟨s, hs, a, b⟩
    obtain ⟨i, hi, e⟩ := mem_spAt hs
    exact ⟨i, hi, by rw [e]; exact a, by rw [e]; exact b⟩
theorem psTo_mem {n : Net} {i : Nat} {s : Sp} : ∀ k, s ∈ psTo n i k → ∃ c, c < k ∧ ChOk n.links (chN n.sets c) ∧ s = sAt n i (chN n.sets c)
  | 0, h => by simp [psTo] at h
  | k + 1, h => by
    by_cases hc : ChOk n.links (chN n.sets k) ∧ ¬ Known (psTo n i k) (sAt n i (chN n.sets k))
    · rw [psTo_yes hc.1 hc.2] at h
      rcases List.mem_append.1 h with h | h
      · obtain ⟨c, h1, h2⟩ := psTo_mem k h
        exact ⟨c, by omega, h2⟩
      · exact ⟨k, by omega, hc.1, by simpa using h⟩
    · rw [psTo_no hc] at h
      obtain ⟨c, h1, h2⟩ := psTo_mem k h
      exact ⟨c, by omega, h2⟩
theorem psTo_day {n : Net} {i : Nat} {d : Int} : ∀ k, (∃ c, c < k ∧ ChOk n.links (chN n.sets c) ∧ (sAt n i (chN n.sets c)).fr ≤ d ∧ d ≤ (sAt n i (chN n.sets c)).to) → HasDay (psTo n i k) d
  | 0, h => by obtain ⟨c, h, _⟩ := h; omega
  | k + 1, h => by
    have keep : HasDay (psTo n i k) d → HasDay (psTo n i (k + 1)) d := by
      intro hd
      by_cases hc : ChOk n.links (chN n.sets k) ∧ ¬ Known (psTo n i k) (sAt n i (chN n.sets k))
      · rw [psTo_yes hc.1 hc.2]
        rw [hasDay_mem] at hd ⊢
        obtain ⟨s, hs, h1⟩ := hd
        exact ⟨s, List.mem_append.2 (.inl hs), h1⟩
      · rw [psTo_no hc]; exact hd
    obtain ⟨c, h1, h2, h3, h4⟩ := h
    by_cases e : c = k
    · subst e
      by_cases hk : Known (psTo n i c) (sAt n i (chN n.sets c))
      · obtain ⟨j, hj, a, b⟩ := hk
        exact keep ⟨j, hj, by omega, by omega⟩
      · rw [psTo_yes h2 hk, hasDay_mem]
        exact ⟨_, List.mem_append.2 (.inr (by simp)), h3, h4⟩
    · exact keep (psTo_day k ⟨c, by omega, h2, h3, h4⟩)
theorem psTo_len (n : Net) (i : Nat) : ∀ k, (psTo n i k).length ≤ k
  | 0 => by simp [psTo]
  | k + 1 => by
    have ih := psTo_len n i k
    by_cases hc : ChOk n.links (chN n.sets k) ∧ ¬ Known (psTo n i k) (sAt n i (chN n.sets k))
    · rw [psTo_yes hc.1 hc.2]; simp; omega
    · rw [psTo_no hc]; omega
/-- the spans of choices are spans of days -/
theorem sAt_ok {n : Net} (h : NetOk n) {c : List Sp} (hc : IsCh n.sets c) (ho : ChOk n.links c) {i : Nat} (hi : i < n.sets.length) : (sAt n i c).fr ≤ (sAt n i c).to ∧ DayOk (sAt n i c).fr ∧ DayOk (sAt n i c).to := by
  have hcl := hc.len
  have hl : LksOk n.links c.length := by rw [hcl]; exact h.2.2.2
  obtain ⟨l1, l2⟩ := ho.low hl
  obtain ⟨g1, g2⟩ := ho.high hl
  have hil : i < c.length := by omega
  refine ⟨g2 _ l1 i hil, ?_, ?_⟩
  · exact (h.2.2.1 i hi).d.day (chSol_days hc l1 hi)
  · exact (h.2.2.1 i hi).d.day (chSol_days hc g1 hi)
theorem mkL_d {l : List Sp} (h1 : FromTo l) (h2 : ∀ d, HasDay l d → DayOk d) : SetD (mkL l) := by
  obtain ⟨a, b⟩ := mkL_ok h1
  refine ⟨a, fun i hi => ⟨h2 _ ((b _).1 ⟨i, hi, Int.le_refl _, (a i hi).1⟩), h2 _ ((b _).1 ⟨i, hi, (a i hi).1, Int.le_refl _⟩)⟩⟩
noncomputable def posL (n : Net) (i : Nat) : List Sp := mkL (psTo n i (prodN n.sets))
theorem mem_fromTo {l : List Sp} (h : ∀ s, s ∈ l → s.fr ≤ s.to ∧ DayOk s.fr ∧ DayOk s.to) : FromTo l ∧ ∀ d, HasDay l d → DayOk d :=
  ⟨fun i hi => (h _ (spAt_mem hi)).1, fun d hd => by
    obtain ⟨s, hs, a, b⟩ := hasDay_mem.1 hd
    obtain ⟨_, ⟨c1, c2⟩, ⟨d1, d2⟩⟩ := h s hs
    unfold DayOk
    omega⟩
theorem psTo_ok {n : Net} (h : NetOk n) {i : Nat} (hi : i < n.sets.length) {k : Nat} (hk : k ≤ prodN n.sets) : ∀ s, s ∈ psTo n i k → s.fr ≤ s.to ∧ DayOk s.fr ∧ DayOk s.to := by
  intro s hs
  obtain ⟨c, h1, h2, rfl⟩ := psTo_mem k hs
  exact sAt_ok h (chN_isCh n.sets c (by omega)) h2 hi
theorem imL_ok {n : Net} (h : NetOk n) {i : Nat} (hi : i < n.sets.length) {l : List (List Sp)} (hl : ∀ c, c ∈ l → IsCh n.sets c) : ∀ s, s ∈ imL n i l → s.fr ≤ s.to ∧ DayOk s.fr ∧ DayOk s.to := by
  intro s hs
  obtain ⟨c, hc, rfl⟩ := List.mem_map.1 hs
  obtain ⟨h1, h2⟩ := mem_okCh.1 hc
  exact sAt_ok h (hl c h1) h2 hi
theorem allCh_isCh {n : Net} {c : List Sp} (h : c ∈ allCh n.sets []) : IsCh n.sets c := by
  obtain ⟨t, ht, e⟩ := mem_allCh.1 h
  have e' : c = t := e
  rw [e']; exact ht
theorem posL_d {n : Net} (h : NetOk n) {i : Nat} (hi : i < n.sets.length) : SetD (posL n i) := by
  obtain ⟨h1, h2⟩ := mem_fromTo (psTo_ok h hi (Nat.le_refl _))
  exact mkL_d h1 h2
/-- the program's spans make the same set -/
theorem imL_pos {n : Net} (h : NetOk n) {i : Nat} (hi : i < n.sets.length) : mkL (imL n i (allCh n.sets [])) = posL n i := by
  obtain ⟨h1, _⟩ := mem_fromTo (psTo_ok h hi (Nat.le_refl _))
  obtain ⟨h3, _⟩ := mem_fromTo (imL_ok h hi (l := allCh n.sets []) (fun c hc => allCh_isCh hc))
  obtain ⟨a1, a2⟩ := mkL_ok h1
  obtain ⟨b1, b2⟩ := mkL_ok h3
  refine b1.eq a1 (fun d => ?_)
  rw [b2]
  show _ ↔ HasDay (mkL (psTo n i (prodN n.sets))) d
  rw [a2]
  constructor
  · intro hd
    obtain ⟨s, hs, x, y⟩ := hasDay_mem.1 hd
    obtain ⟨c, hc, rfl⟩ := List.mem_map.1 hs
    obtain ⟨h5, h6⟩ := mem_okCh.1 hc
    obtain ⟨k, hk, e⟩ := (mem_numCh (prodN n.sets)).1 (mem_both.2 h5)
    exact psTo_day _ ⟨k, hk, by rw [e]; exact h6, by rw [e]; exact x, by rw [e]; exact y⟩
  · intro hd
    obtain ⟨s, hs, x, y⟩ := hasDay_mem.1 hd
    obtain ⟨k, hk, h6, rfl⟩ := psTo_mem _ hs
    refine hasDay_mem.2 ⟨_, List.mem_map.2 ⟨chN n.sets k, mem_okCh.2 ⟨mem_both.1 ((mem_numCh _).2 ⟨k, hk, rfl⟩), h6⟩, rfl⟩, x, y⟩
noncomputable def posSS (n : Net) : List (List Sp) := (List.range n.sets.length).map (posL n)
theorem posSS_len (n : Net) : (posSS n).length = n.sets.length := by simp [posSS]
theorem posSS_at {n : Net} {i : Nat} (h : i < n.sets.length) : setAt (posSS n) i = posL n i := by
  unfold setAt posSS
  rw [List.getD_eq_getElem?_getD, List.getElem?_map, List.getElem?_range h]
  rfl
noncomputable def svN (n : Net) : Net := ⟨posSS n, n.links⟩
theorem svN_d {n : Net} (h : NetOk n) : NetD (svN n) := by
  refine ⟨by rw [show (svN n).sets = posSS n from rfl, posSS_len]; exact h.1, h.2.1, fun i hi => ?_, fun i hi => ?_⟩
  · have hi' : i < n.sets.length := by rw [← posSS_len n]; exact hi
    show SetD (setAt (posSS n) i)
    rw [posSS_at hi']
    exact posL_d h hi'
  · show LkOk (lkAt n.links i) (posSS n).length
    rw [posSS_len]
    exact h.2.2.2 i hi
end Go.Proofs.Ytfajmlkiidnhlaa
