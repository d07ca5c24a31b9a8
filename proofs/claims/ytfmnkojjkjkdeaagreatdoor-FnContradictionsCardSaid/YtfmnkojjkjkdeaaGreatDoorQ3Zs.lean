/- Plain: a network has a solution exactly if there are days that solve it; what the first solution is. -/
import Derived.Test.YtfmnkojjkjkdeaaGreatDoorQ3Fs
import Derived.Test.YtfmnkojjkjkdeaaGreatDoorQ3Nt
import Derived.Test.YtfmnkojjkjkdeaaGreatDoorQ3Lib
namespace Go.Proofs.YtfmnkojjkjkdeaaGreatDoor
set_option linter.unusedVariables false
set_option linter.unusedSimpArgs false

theorem feas_holds {ls : List Lk} {p : Nat → Int} : Feas (LkC ls) p ↔ ∀ j, j < ls.length → (lkAt ls j).le ≤ p (lkAt ls j).af.toNat - p (lkAt ls j).be.toNat ∧ p (lkAt ls j).af.toNat - p (lkAt ls j).be.toNat ≤ (lkAt ls j).mo := by
  constructor
  · intro h j hj
    have h1 := h (lkAt ls j).be.toNat (lkAt ls j).af.toNat (lkAt ls j).mo ⟨j, hj, .inl ⟨rfl, rfl, rfl⟩⟩
    have h2 := h (lkAt ls j).af.toNat (lkAt ls j).be.toNat (-(lkAt ls j).le) ⟨j, hj, .inr ⟨rfl, rfl, rfl⟩⟩
    omega
  · rintro h u v c ⟨j, hj, ⟨rfl, rfl, rfl⟩ | ⟨rfl, rfl, rfl⟩⟩
    · have := h j hj; omega
    · have := h j hj; omega
theorem inAt_range {N : Nat} {p : Nat → Int} {i : Nat} (h : i < N) : inAt ((List.range N).map p) i = p i := by
  unfold inAt
  rw [List.getD_eq_getElem?_getD, List.getElem?_map, List.getElem?_range h]
  rfl
theorem isCh_of_days : ∀ (l : List (List Sp)) (p : Nat → Int), (∀ i, i < l.length → HasDay (setAt l i) (p i)) → ∃ c, IsCh l c ∧ ∀ i, i < c.length → (spAt c i).fr ≤ p i ∧ p i ≤ (spAt c i).to
  | [], p, _ => ⟨[], trivial, fun i hi => absurd hi (by simp)⟩
  | s :: r, p, h => by
    obtain ⟨k, hk, h1, h2⟩ := h 0 (by simp)
    obtain ⟨c, hc, hp⟩ := isCh_of_days r (fun i => p (i + 1)) (fun i hi => h (i + 1) (by simp; omega))
    refine ⟨spAt s k :: c, ⟨spAt_mem hk, hc⟩, fun i hi => ?_⟩
    match i, hi with
    | 0, _ => exact ⟨h1, h2⟩
    | i + 1, hi => exact hp i (by simpa using hi)
theorem chSol_days {n : Net} {ch : List Sp} {p : Nat → Int} (h1 : IsCh n.sets ch) (h : ChSol n.links ch p) {i : Nat} (hi : i < n.sets.length) : HasDay (setAt n.sets i) (p i) := by
  obtain ⟨h2, h3⟩ := h
  have hil : i < ch.length := by rw [h1.len]; exact hi
  obtain ⟨k, hk, e⟩ := mem_spAt (h1.mem i hil)
  exact ⟨k, hk, by rw [e]; exact (h3 i hil).1, by rw [e]; exact (h3 i hil).2⟩
theorem sol_of_days {n : Net} {ds : List Int} (hl : ds.length = n.sets.length) (h : Solves n ds) : Sol n := by
  obtain ⟨c, hc, hp⟩ := isCh_of_days n.sets (inAt ds) (fun i hi => h.1 i (by omega))
  exact ⟨c, hc, inAt ds, feas_holds.2 (fun j hj => h.2 j hj), hp⟩
theorem sol_days {n : Net} (hk : LksOk n.links n.sets.length) : Sol n ↔ ∃ ds : List Int, ds.length = n.sets.length ∧ Solves n ds := by
  constructor
  · rintro ⟨ch, h1, p, h⟩
    refine ⟨(List.range n.sets.length).map p, by simp, fun i hi => ?_, fun j hj => ?_⟩
    · have hi' : i < n.sets.length := by simpa using hi
      rw [inAt_range hi']
      exact chSol_days h1 h hi'
    · obtain ⟨⟨a1, a2⟩, ⟨b1, b2⟩, _⟩ := hk j hj
      have := feas_holds.1 h.1 j hj
      unfold Holds
      rw [inAt_range (by omega), inAt_range (by omega)]
      exact this
  · rintro ⟨ds, h1, h2⟩
    exact sol_of_days h1 h2
/-- the best of the solutions solves -/
theorem best_solves {n : Net} (hk : LksOk n.links n.sets.length) (hs : Sol n) : ∃ m, bestL (lows n.links (allCh n.sets [])) = some m ∧ m.length = n.sets.length ∧ Solves n m := by
  have h0 : okCh n.links (allCh n.sets []) ≠ [] := (sol_okCh n).1 hs
  have hlen : ∀ x, x ∈ lows n.links (allCh n.sets []) → x.length = n.sets.length := by
    intro x hx
    obtain ⟨c, hc, e⟩ := List.mem_map.1 hx
    rw [← e, lowV_len]
    exact mem_allCh_len (mem_okCh.1 hc).1
  obtain ⟨m, e, hm, _⟩ := best_some hlen (fun hh => h0 (List.map_eq_nil_iff.1 hh))
  obtain ⟨c, hc, rfl⟩ := List.mem_map.1 hm
  obtain ⟨hc1, hc2⟩ := mem_okCh.1 hc
  obtain ⟨t, ht, e2⟩ := mem_allCh.1 hc1
  have e2' : c = t := e2
  subst e2'
  have hcl := ht.len
  have hlow := (hc2.low (by rw [hcl]; exact hk)).1
  refine ⟨_, e, hlen _ hm, fun i hi => ?_, fun j hj => feas_holds.1 hlow.1 j hj⟩
  rw [lowV_len, hcl] at hi
  exact chSol_days ht hlow hi
/-! ### narrowing leaves out no solution -/
theorem nar1_in {n : Net} {l : Lk} {ds : List Int} (h : NetD n) (hl : LkOk l n.sets.length) (hd : ds.length = n.sets.length) (hs : InSets n ds) (hh : Holds l ds) : InSets (nar1 n l) ds := by
  intro i hi
  show HasDay (setAt (n.sets.set l.af.toNat (partN n l true)) i) _
  rw [setAt_put]
  split
  · rename_i hc
    obtain ⟨⟨a1, a2⟩, ⟨b1, b2⟩, _⟩ := hl
    rw [hc.1]
    exact ((partN_d true h ⟨⟨a1, a2⟩, ⟨b1, b2⟩, by assumption⟩).2 _).2 ⟨hs l.af.toNat (by omega), inAt ds l.be.toNat, hs l.be.toNat (by omega), hh.1, hh.2⟩
  · exact hs i hi
theorem nar2_in {n : Net} {l : Lk} {ds : List Int} (h : NetD n) (hl : LkOk l n.sets.length) (hd : ds.length = n.sets.length) (hs : InSets n ds) (hh : Holds l ds) : InSets (nar2 n l) ds := by
  intro i hi
  show HasDay (setAt (n.sets.set l.be.toNat (partN n l false)) i) _
  rw [setAt_put]
  split
  · rename_i hc
    obtain ⟨⟨a1, a2⟩, ⟨b1, b2⟩, _⟩ := hl
    rw [hc.1]
    refine ((partN_d false h ⟨⟨a1, a2⟩, ⟨b1, b2⟩, by assumption⟩).2 _).2 ⟨hs l.be.toNat (by omega), inAt ds l.af.toNat, hs l.af.toNat (by omega), ?_, ?_⟩
    · have := hh.2
      show -l.mo ≤ _
      omega
    · have := hh.1
      show _ ≤ -l.le
      omega
  · exact hs i hi
theorem narL_in {n : Net} {l : Lk} {ds : List Int} (h : NetD n) (hl : LkOk l n.sets.length) (hd : ds.length = n.sets.length) (hs : InSets n ds) (hh : Holds l ds) : InSets (narL n l) ds := by
  obtain ⟨h1, h2⟩ := nar1_ok h hl
  exact nar2_in h1 (by rw [h2.ns]; exact hl) (by rw [h2.ns]; exact hd) (nar1_in h hl hd hs hh) hh
theorem narTo_in {n : Net} {ls : List Lk} {ds : List Int} (h : NetD n) (hl : ∀ i, i < ls.length → LkOk (lkAt ls i) n.sets.length) (hd : ds.length = n.sets.length) (hs : InSets n ds) (hh : ∀ i, i < ls.length → Holds (lkAt ls i) ds) : ∀ j, j ≤ ls.length → InSets (narTo n ls j) ds
  | 0, _ => hs
  | j + 1, hj => by
    obtain ⟨h1, h2⟩ := narTo_ok h hl j (by omega)
    exact narL_in h1 (by rw [h2.ns]; exact hl j (by omega)) (by rw [h2.ns]; exact hd) (narTo_in h hl hd hs hh j (by omega)) (hh j (by omega))
theorem narR_solves {n : Net} {ds : List Int} (h : NetD n) (hd : ds.length = n.sets.length) (hs : Solves n ds) : Solves (narR n) ds :=
  ⟨narTo_in h h.lks hd hs.1 hs.2 _ (Nat.le_refl _), by intro j hj; rw [(narR_ok h).2.lk] at hj ⊢; exact hs.2 j hj⟩
theorem itR_solves {n : Net} {ds : List Int} (h : NetD n) (hd : ds.length = n.sets.length) (hs : Solves n ds) : ∀ k, Solves (itR n k) ds
  | 0 => hs
  | k + 1 => by
    obtain ⟨h1, h2⟩ := itR_ok h k
    exact narR_solves h1 (by rw [h2.ns]; exact hd) (itR_solves h hd hs k)
theorem day_ok {n : Net} {ds : List Int} (h : NetOk n) (hd : ds.length = n.sets.length) (hs : InSets n ds) : dayE n ds = 0 :=
  dayE_ok h ⟨hd, fun i hi => by
    obtain ⟨d1, d2⟩ := (h.2.2.1 i (by omega)).d.day (hs i hi)
    unfold DayOk
    omega⟩
theorem solvB_ok {n : Net} {ds : List Int} (h : NetOk n) (hd : ds.length = n.sets.length) (hs : Solves n ds) : solvB n ds = true := B_true ⟨day_ok h hd hs.1, hs⟩
/-! ### the narrowing law -/
theorem Goes.lim {n : Net} {k : Nat} (ho : NetOk n) (h : Goes n k) : NetOk (itR n k) := by
  match k with
  | 0 => exact ho
  | k + 1 => exact (netOk_iff (itR_ok ho.d (k + 1)).1).2 (h k (by omega)).2
theorem nrE_zero {n : Net} (h : nrE n = 0) : NetOk n ∧ NetOk (narR n) ∧ nrV n = narR n := by
  have ho : NetOk n := Classical.byContradiction (fun hh => by rw [(nr_no hh).2] at h; omega)
  rw [(nr_ok ho).2] at h
  have hl : Lim (narR n) := Classical.byContradiction (fun hh => by rw [(lim_no hh).1] at h; omega)
  exact ⟨ho, (netOk_iff (narR_ok ho.d).1).2 hl, by rw [(nr_ok ho).1, (lim_yes hl).2]⟩
theorem nr_lost {n : Net} (h : nrE n = 0) : lostE n (nrV n) = 0 ∧ 0 ≤ lostV n (nrV n) ∧ isnE n = 0 ∧ isnV n = (lostV n (nrV n) == 0) := by
  obtain ⟨h1, h2, h3⟩ := nrE_zero h
  obtain ⟨h4, h5⟩ := narR_ok h1.d
  obtain ⟨e1, e2⟩ := lost_ok ⟨h1, h2⟩ h5.ns.symm
  have hd := netDays_eq h4 h1.d h5
  have hle : netDays (narR n).sets ≤ netDays n.sets := by
    have := (netDaysTo_sub h4.sets h1.d.sets h5.ns h5.day n.sets.length (Nat.le_refl _)).1
    unfold netDays
    rw [h5.ns]
    exact this
  rw [h3, e1, e2, (isn_ok h1).1, (isn_ok h1).2]
  refine ⟨rfl, by omega, rfl, ?_⟩
  symm
  refine B_eq ?_
  rw [beq_iff_eq]
  exact ⟨fun e => hd.1 (by omega), fun e => by have := hd.2 e; omega⟩
theorem na_zero {n : Net} (h : naE n = 0) : NetOk n ∧ ∃ k, Stops n k ∧ naV n = itR n k ∧ naC n = k := by
  have ho : NetOk n := Classical.byContradiction (fun hh => by rw [(na_inv hh).2.2] at h; omega)
  by_cases h2 : ∃ k, Stops n k
  · obtain ⟨k, hk⟩ := h2
    exact ⟨ho, k, hk, (na_yes ho hk).1, (na_yes ho hk).2.1⟩
  · rw [(na_no ho h2).2.2] at h; omega
theorem sub_days {m n : Net} (hm : NetD m) (hn : NetD n) (h : Sub m n) : netDays m.sets ≤ netDays n.sets := by
  have := (netDaysTo_sub hm.sets hn.sets h.ns h.day n.sets.length (Nat.le_refl _)).1
  unfold netDays
  rw [h.ns]
  exact this
theorem itR_first {n : Net} (h : NetD n) : ∀ k, netDays (itR n (k + 1)).sets ≤ netDays (narR n).sets
  | 0 => Int.le_refl _
  | k + 1 => by
    obtain ⟨h1, h2⟩ := itR_ok h (k + 1)
    obtain ⟨h3, h4⟩ := narR_ok h1
    exact Int.le_trans (sub_days h3 h1 h4) (itR_first h k)
theorem na_law {n : Net} (h : naE n = 0) : isnE (naV n) = 0 ∧ isnV (naV n) = true ∧ lostE n (naV n) = 0 ∧ 0 ≤ lostV n (naV n) ∧ (lostV n (naV n) == 0) = (naC n == 0) := by
  obtain ⟨ho, k, hk, e1, e2⟩ := na_zero h
  have hok := Goes.lim ho hk.2.1
  obtain ⟨h1, h2⟩ := itR_ok ho.d k
  obtain ⟨l1, l2⟩ := lost_ok ⟨ho, hok⟩ h2.ns.symm
  have hle := sub_days h1 ho.d h2
  rw [e1, e2, (isn_ok hok).1, (isn_ok hok).2, l1, l2]
  refine ⟨rfl, B_true hk.2.2, rfl, by omega, ?_⟩
  rw [Bool.eq_iff_iff, beq_iff_eq, beq_iff_eq]
  match k, hk with
  | 0, _ => show (netDays n.sets - netDays n.sets = 0) ↔ _; omega
  | k + 1, hk =>
    have hnf := (hk.2.1 0 (by omega)).1
    obtain ⟨r1, r2⟩ := narR_ok ho.d
    have hlt : netDays (narR n).sets ≠ netDays n.sets := fun e => hnf ((netDays_eq r1 ho.d r2).1 e)
    have h3 := sub_days r1 ho.d r2
    have h4 := itR_first ho.d k
    omega
end Go.Proofs.YtfmnkojjkjkdeaaGreatDoor
