/- Texts merged (a claim holds at most sixty files): Zs, Yp. -/
import Derived.Test.YtfajmlkiidnhlaaQ4Fs
import Derived.Test.YtfajmlkiidnhlaaQ4Na
import Derived.Test.YtfajmlkiidnhlaaQ4Lib
import Derived.Test.YtfajmlkiidnhlaaQ4Nr
/- Plain: a network has a solution exactly if there are days that solve it; what the first solution is. -/
namespace Go.Proofs.Ytfajmlkiidnhlaa
set_option linter.unusedVariables false
set_option linter.unusedSimpArgs false

theorem feas_holds {ls : List Lk} {p : Nat → Int} : Feas (LkC ls) p ↔ ∀ j, j < ls.length → (lkAt ls j).le ≤ p (lkAt ls j).af.toNat - p (lkAt ls j).be.toNat ∧ p (lkAt ls j).af.toNat - p (lkAt ls j).be.toNat ≤ (lkAt ls j).mo := by
  constructor
  · intro h j hj
    have h1 := h (lkAt ls j).be.toNat (lkAt ls j).af.toNat (lkAt ls j).mo ⟨j, hj, .inl ⟨rfl, rfl, rfl⟩⟩
    have h2 := h (lkAt ls j).af.toNat (lkAt ls j).be.toNat (-(lkAt ls j).le) ⟨j, hj, .inr ⟨rfl, rfl, rfl⟩⟩
    omega
  · rintro h u v c ⟨j, hj, ⟨rfl, rfl, rfl⟩ | ⟨rfl, rfl, rfl⟩⟩
    · have := h j hj; omega
    · have := h j hj; omega
theorem inAt_range {N : Nat} {p : Nat → Int} {i : Nat} (h : i < N) : inAt ((List.range N).map p) i = p i := by
  unfold inAt
  rw [List.getD_eq_getElem?_getD, List.getElem?_map, List.getElem?_range h]
  rfl
theorem isCh_of_days : ∀ (l : List (List Sp)) (p : Nat → Int), (∀ i, i < l.length → HasDay (setAt l i) (p i)) → ∃ c, IsCh l c ∧ ∀ i, i < c.length → (spAt c i).fr ≤ p i ∧ p i ≤ (spAt c i).to
  | [], p, _ => ⟨[], trivial, fun i hi => absurd hi (by simp)⟩
  | s :: r, p, h => by
    obtain ⟨k, hk, h1, h2⟩ := h 0 (by simp)
    obtain ⟨c, hc, hp⟩ := isCh_of_days r (fun i => p (i + 1)) (fun i hi => h (i + 1) (by simp; omega))
    refine ⟨spAt s k :: c, ⟨spAt_mem hk, hc⟩, fun i hi => ?_⟩
    match i, hi with
    | 0, _ => exact ⟨h1, h2⟩
    | i + 1, hi => exact hp i (by simpa using hi)
theorem chSol_days {n : Net} {ch : List Sp} {p : Nat → Int} (h1 : IsCh n.sets ch) (h : ChSol n.links ch p) {i : Nat} (hi : i < n.sets.length) : HasDay (setAt n.sets i) (p i) := by
  obtain ⟨h2, h3⟩ := h
  have hil : i < ch.length := by rw [h1.len]; exact hi
  obtain ⟨k, hk, e⟩ := mem_spAt (h1.mem i hil)
  exact ⟨k, hk, by rw [e]; exact (h3 i hil).1, by rw [e]; exact (h3 i hil).2⟩
theorem sol_of_days {n : Net} {ds : List Int} (hl : ds.length = n.sets.length) (h : Solves n ds) : Sol n := by
  obtain ⟨c, hc, hp⟩ := isCh_of_days n.sets (inAt ds) (fun i hi => h.1 i (by omega))
  exact ⟨c, hc, inAt ds, feas_holds.2 (fun j hj => h.2 j hj), hp⟩
theorem sol_days {n : Net} (hk : LksOk n.links n.sets.length) : Sol n ↔ ∃ ds : List Int, ds.length = n.sets.length ∧ Solves n ds := by
  constructor
  · rintro ⟨ch, h1, p, h⟩
    refine ⟨(List.range n.sets.length).map p, by simp, fun i hi => ?_, fun j hj => ?_⟩
    · have hi' : i < n.sets.length := by simpa using hi
      rw [inAt_range hi']
      exact chSol_days h1 h hi'
    · obtain ⟨⟨a1, a2⟩, ⟨b1, b2⟩, _⟩ := hk j hj
      have := feas_holds.1 h.1 j hj
      unfold Holds
      rw [inAt_range (by omega), inAt_range (by omega)]
      exact this
  · rintro ⟨ds, h1, h2⟩
    exact sol_of_days h1 h2
/-- the best of the solutions solves -/
theorem best_solves {n : Net} (hk : LksOk n.links n.sets.length) (hs : Sol n) : ∃ m, bestL (lows n.links (allCh n.sets [])) = some m ∧ m.length = n.sets.length ∧ Solves n m := by
  have h0 : okCh n.links (allCh n.sets []) ≠ [] := (sol_okCh n).1 hs
  have hlen : ∀ x, x ∈ lows n.links (allCh n.sets []) → x.length = n.sets.length := by
    intro x hx
    obtain ⟨c, hc, e⟩ := List.mem_map.1 hx
    rw [← e, lowV_len]
    exact mem_allCh_len (mem_okCh.1 hc).1
  obtain ⟨m, e, hm, _⟩ := best_some hlen (fun hh => h0 (List.map_eq_nil_iff.1 hh))
  obtain ⟨c, hc, rfl⟩ := List.mem_map.1 hm
  obtain ⟨hc1, hc2⟩ := mem_okCh.1 hc
  obtain ⟨t, ht, e2⟩ := mem_allCh.1 hc1
  have e2' : c = t := e2
  subst e2'
  have hcl := ht.len
  have hlow := (hc2.low (by rw [hcl]; exact hk)).1
  refine ⟨_, e, hlen _ hm, fun i hi => ?_, fun j hj => feas_holds.1 hlow.1 j hj⟩
  rw [lowV_len, hcl] at hi
  exact chSol_days ht hlow hi
/-! ### narrowing leaves out no solution -/
theorem nar1_in {n : Net} {l : Lk} {ds : List Int} (h : NetD n) (hl : LkOk l n.sets.length) (hd : ds.length = n.sets.length) (hs : InSets n ds) (hh : Holds l ds) : InSets (nar1 n l) ds := by
  intro i hi
  show HasDay (setAt (n.sets.set l.af.toNat (partN n l true)) i) _
  rw [setAt_put]
  split
  · rename_i hc
    obtain ⟨⟨a1, a2⟩, ⟨b1, b2⟩, _⟩ := hl
    rw [hc.1]
    exact ((partN_d true h ⟨⟨a1, a2⟩, ⟨b1, b2⟩, by assumption⟩).2 _).2 ⟨hs l.af.toNat (by omega), inAt ds l.be.toNat, hs l.be.toNat (by omega), hh.1, hh.2⟩
  · exact hs i hi
theorem nar2_in {n : Net} {l : Lk} {ds : List Int} (h : NetD n) (hl : LkOk l n.sets.length) (hd : ds.length = n.sets.length) (hs : InSets n ds) (hh : Holds l ds) : InSets (nar2 n l) ds := by
  intro i hi
  show HasDay (setAt (n.sets.set l.be.toNat (partN n l false)) i) _
  rw [setAt_put]
  split
  · rename_i hc
    obtain ⟨⟨a1, a2⟩, ⟨b1, b2⟩, _⟩ := hl
    rw [hc.1]
    refine ((partN_d false h ⟨⟨a1, a2⟩, ⟨b1, b2⟩, by assumption⟩).2 _).2 ⟨hs l.be.toNat (by omega), inAt ds l.af.toNat, hs l.af.toNat (by omega), ?_, ?_⟩
    · have := hh.2
      show -l.mo ≤ _
      omega
    · have := hh.1
      show _ ≤ -l.le
      omega
  · exact hs i hi
theorem narL_in {n : Net} {l : Lk} {ds : List Int} (h : NetD n) (hl : LkOk l n.sets.length) (hd : ds.length = n.sets.length) (hs : InSets n ds) (hh : Holds l ds) : InSets (narL n l) ds := by
  obtain ⟨h1, h2⟩ := nar1_ok h hl
  exact nar2_in h1 (by rw [h2.ns]; exact hl) (by rw [h2.ns]; exact hd) (nar1_in h hl hd hs hh) hh
theorem narTo_in {n : Net} {ls : List Lk} {ds : List Int} (h : NetD n) (hl : ∀ i, i < ls.length → LkOk (lkAt ls i) n.sets.length) (hd : ds.length = n.sets.length) (hs : InSets n ds) (hh : ∀ i, i < ls.length → Holds (lkAt ls i) ds) : ∀ j, j ≤ ls.length → InSets (narTo n ls j) ds
  | 0, _ => hs
  | j + 1, hj => by
    obtain ⟨h1, h2⟩ := narTo_ok h hl j (by omega)
    exact narL_in h1 (by rw [h2.ns]; exact hl j (by omega)) (by rw [h2.ns]; exact hd) (narTo_in h hl hd hs hh j (by omega)) (hh j (by omega))
theorem narR_solves {n : Net} {ds : List Int} (h : NetD n) (hd : ds.length = n.sets.length) (hs : Solves n ds) : Solves (narR n) ds :=
  ⟨narTo_in h h.lks hd hs.1 hs.2 _ (Nat.le_refl _), by intro j hj; rw [(narR_ok h).2.lk] at hj ⊢; exact hs.2 j hj⟩
theorem itR_solves {n : Net} {ds : List Int} (h : NetD n) (hd : ds.length = n.sets.length) (hs : Solves n ds) : ∀ k, Solves (itR n k) ds
  | 0 => hs
  | k + 1 => by
    obtain ⟨h1, h2⟩ := itR_ok h k
    exact narR_solves h1 (by rw [h2.ns]; exact hd) (itR_solves h hd hs k)
theorem day_ok {n : Net} {ds : List Int} (h : NetOk n) (hd : ds.length = n.sets.length) (hs : InSets n ds) : dayE n ds = 0 :=
  dayE_ok h ⟨hd, fun i hi => by
    obtain ⟨d1, d2⟩ := (h.2.2.1 i (by omega)).d.day (hs i hi)
    unfold DayOk
    omega⟩
theorem solvB_ok {n : Net} {ds : List Int} (h : NetOk n) (hd : ds.length = n.sets.length) (hs : Solves n ds) : solvB n ds = true := B_true ⟨day_ok h hd hs.1, hs⟩
/-! ### the narrowing law -/
theorem Goes.lim {n : Net} {k : Nat} (ho : NetOk n) (h : Goes n k) : NetOk (itR n k) := by
  match k with
  | 0 => exact ho
  | k + 1 => exact (netOk_iff (itR_ok ho.d (k + 1)).1).2 (h k (by omega)).2
theorem nrE_zero {n : Net} (h : nrE n = 0) : NetOk n ∧ NetOk (narR n) ∧ nrV n = narR n := by
  have ho : NetOk n := Classical.byContradiction (fun hh => by rw [(nr_no hh).2] at h; omega)
  rw [(nr_ok ho).2] at h
  have hl : Lim (narR n) := Classical.byContradiction (fun hh => by rw [(lim_no hh).1] at h; omega)
  exact ⟨ho, (netOk_iff (narR_ok ho.d).1).2 hl, by rw [(nr_ok ho).1, (lim_yes hl).2]⟩
theorem nr_lost {n : Net} (h : nrE n = 0) : lostE n (nrV n) = 0 ∧ 0 ≤ lostV n (nrV n) ∧ isnE n = 0 ∧ isnV n = (lostV n (nrV n) == 0) := by
  obtain ⟨h1, h2, h3⟩ := nrE_zero h
  obtain ⟨h4, h5⟩ := narR_ok h1.d
  obtain ⟨e1, e2⟩ := lost_ok ⟨h1, h2⟩ h5.ns.symm
  have hd := netDays_eq h4 h1.d h5
  have hle : netDays (narR n).sets ≤ netDays n.sets := by
    have := (netDaysTo_sub h4.sets h1.d.sets h5.ns h5.day n.sets.length (Nat.le_refl _)).1
    unfold netDays
    rw [h5.ns]
    exact this
  rw [h3, e1, e2, (isn_ok h1).1, (isn_ok h1).2]
  refine ⟨rfl, by omega, rfl, ?_⟩
  symm
  refine B_eq ?_
  rw [beq_iff_eq]
  exact ⟨fun e => hd.1 (by omega), fun e => by have := hd.2 e; omega⟩
theorem na_zero {n : Net} (h : naE n = 0) : NetOk n ∧ ∃ k, Stops n k ∧ naV n = itR n k ∧ naC n = k := by
  have ho : NetOk n := Classical.byContradiction (fun hh => by rw [(na_inv hh).2.2] at h; omega)
  by_cases h2 : ∃ k, Stops n k
  · obtain ⟨k, hk⟩ := h2
    exact ⟨ho, k, hk, (na_yes ho hk).1, (na_yes ho hk).2.1⟩
  · rw [(na_no ho h2).2.2] at h; omega
theorem sub_days {m n : Net} (hm : NetD m) (hn : NetD n) (h : Sub m n) : netDays m.sets ≤ netDays n.sets := by
  have := (netDaysTo_sub hm.sets hn.sets h.ns h.day n.sets.length (Nat.le_refl _)).1
  unfold netDays
  rw [h.ns]
  exact this
theorem itR_first {n : Net} (h : NetD n) : ∀ k, netDays (itR n (k + 1)).sets ≤ netDays (narR n).sets
  | 0 => Int.le_refl _
  | k + 1 => by
    obtain ⟨h1, h2⟩ := itR_ok h (k + 1)
    obtain ⟨h3, h4⟩ := narR_ok h1
    exact Int.le_trans (sub_days h3 h1 h4) (itR_first h k)
theorem na_law {n : Net} (h : naE n = 0) : isnE (naV n) = 0 ∧ isnV (naV n) = true ∧ lostE n (naV n) = 0 ∧ 0 ≤ lostV n (naV n) ∧ (lostV n (naV n) == 0) = (naC n == 0) := by
  obtain ⟨ho, k, hk, e1, e2⟩ := na_zero h
  have hok := Goes.lim ho hk.2.1
  obtain ⟨h1, h2⟩ := itR_ok ho.d k
  obtain ⟨l1, l2⟩ := lost_ok ⟨ho, hok⟩ h2.ns.symm
  have hle := sub_days h1 ho.d h2
  rw [e1, e2, (isn_ok hok).1, (isn_ok hok).2, l1, l2]
  refine ⟨rfl, B_true hk.2.2, rfl, by omega, ?_⟩
  rw [Bool.eq_iff_iff, beq_iff_eq, beq_iff_eq]
  match k, hk with
  | 0, _ => show (netDays n.sets - netDays n.sets = 0) ↔ _; omega
  | k + 1, hk =>
    have hnf := (hk.2.1 0 (by omega)).1
    obtain ⟨r1, r2⟩ := narR_ok ho.d
    have hlt : netDays (narR n).sets ≠ netDays n.sets := fun e => hnf ((netDays_eq r1 ho.d r2).1 e)
    have h3 := sub_days r1 ho.d r2
    have h4 := itR_first ho.d k
    omega
end Go.Proofs.Ytfajmlkiidnhlaa

/- Plain: partners of days; a link that has been narrowed; a day that is fixed. -/
namespace Go.Proofs.Ytfajmlkiidnhlaa
set_option linter.unusedVariables false
set_option linter.unusedSimpArgs false

/-- a set and one that is not empty have few spans in common -/
theorem metTo_few {a b : List Sp} (ha : 0 < a.length) (hb : 0 < b.length) : ∀ t, (metTo a b t).out.length ≤ (metTo a b t).i + (metTo a b t).k ∧ (metTo a b t).i ≤ a.length ∧ (metTo a b t).k ≤ b.length ∧ (metTo a b t).i + (metTo a b t).k < a.length + b.length
  | 0 => ⟨Nat.le_refl _, Nat.zero_le _, Nat.zero_le _, by show 0 + 0 < _; omega⟩
  | t + 1 => by
    obtain ⟨h1, h2, h3, h4⟩ := metTo_few ha hb t
    have hl := metOut_len a b (metTo a b t).i (metTo a b t).k (metTo a b t).out
    have e : metTo a b (t + 1) = metNext a b (metTo a b t) := rfl
    rw [e]
    generalize metTo a b t = s at *
    by_cases h : s.i < a.length ∧ s.k < b.length
    · by_cases h5 : (spAt a s.i).to < (spAt b s.k).to
      · have e2 : metNext a b s = ⟨s.i + 1, s.k, metOut a b s.i s.k s.out⟩ := by unfold metNext; rw [if_pos h, if_pos h5]
        rw [e2]
        refine ⟨?_, ?_, ?_, ?_⟩
        · show (metOut a b s.i s.k s.out).length ≤ s.i + 1 + s.k; omega
        · show s.i + 1 ≤ _; omega
        · exact h3
        · show s.i + 1 + s.k < _; omega
      · have e2 : metNext a b s = ⟨s.i, s.k + 1, metOut a b s.i s.k s.out⟩ := by unfold metNext; rw [if_pos h, if_neg h5]
        rw [e2]
        refine ⟨?_, ?_, ?_, ?_⟩
        · show (metOut a b s.i s.k s.out).length ≤ s.i + (s.k + 1); omega
        · exact h2
        · show s.k + 1 ≤ _; omega
        · show s.i + (s.k + 1) < _; omega
    · have e2 : metNext a b s = s := by unfold metNext; rw [if_neg h]
      rw [e2]
      exact ⟨h1, h2, h3, h4⟩
theorem metL_one {a b : List Sp} (ha : a.length ≤ 300) (hb : b.length ≤ 1) : (metL a b).length ≤ 300 := by
  unfold metL
  by_cases h : 0 < a.length ∧ 0 < b.length
  · have := metTo_few h.1 h.2 (a.length + b.length)
    omega
  · have := metTo_len a b (a.length + b.length)
    have h2 : ∀ t, (metTo a b t).out = [] := by
      intro t
      have h0 : ¬ ((metTo a b 0).i < a.length ∧ (metTo a b 0).k < b.length) := by
        show ¬ (0 < a.length ∧ 0 < b.length)
        exact h
      have := metTo_end h0 t
      rw [Nat.zero_add] at this
      rw [this]
      rfl
    rw [h2]
    simp
theorem LkOk.ne {l : Lk} {N : Nat} (h : LkOk l N) : l.af.toNat ≠ l.be.toNat := by
  obtain ⟨⟨a1, a2⟩, ⟨b1, b2⟩, c, _⟩ := h
  omega
theorem LkOk.lt {l : Lk} {N : Nat} (h : LkOk l N) : l.af.toNat < N ∧ l.be.toNat < N := by
  obtain ⟨⟨a1, a2⟩, ⟨b1, b2⟩, c, _⟩ := h
  omega
/-- the sets of a network whose link has been narrowed -/
theorem narL_af {n : Net} {l : Lk} (hl : LkOk l n.sets.length) : setAt (narL n l).sets l.af.toNat = partN n l true := by
  show setAt ((n.sets.set l.af.toNat (partN n l true)).set l.be.toNat (partN (nar1 n l) l false)) l.af.toNat = _
  rw [setAt_put, if_neg (fun h => hl.ne h.1), setAt_put, if_pos ⟨rfl, hl.lt.1⟩]
theorem narL_be {n : Net} {l : Lk} (hl : LkOk l n.sets.length) : setAt (narL n l).sets l.be.toNat = partN (nar1 n l) l false := by
  show setAt ((n.sets.set l.af.toNat (partN n l true)).set l.be.toNat (partN (nar1 n l) l false)) l.be.toNat = _
  rw [setAt_put, if_pos ⟨rfl, by rw [List.length_set]; exact hl.lt.2⟩]
theorem nar1_af {n : Net} {l : Lk} (hl : LkOk l n.sets.length) : setAt (nar1 n l).sets l.af.toNat = partN n l true := by
  show setAt (n.sets.set l.af.toNat (partN n l true)) l.af.toNat = _
  rw [setAt_put, if_pos ⟨rfl, hl.lt.1⟩]
theorem nar1_be {n : Net} {l : Lk} (hl : LkOk l n.sets.length) : setAt (nar1 n l).sets l.be.toNat = setAt n.sets l.be.toNat := by
  show setAt (n.sets.set l.af.toNat (partN n l true)) l.be.toNat = _
  rw [setAt_put, if_neg (fun h => hl.ne h.1.symm)]
/-- the partners of a narrowed link's days are its days -/
theorem narL_part {n : Net} {l : Lk} (h : NetD n) (hl : LkOk l n.sets.length) (o : Bool) : partN (narL n l) l o = setAt (narL n l).sets (ownI o l) := by
  obtain ⟨h1, h2⟩ := nar1_ok h hl
  obtain ⟨h3, h4⟩ := narL_ok h hl
  have hl1 : LkOk l (nar1 n l).sets.length := by rw [h2.ns]; exact hl
  have hl3 : LkOk l (narL n l).sets.length := by rw [h4.ns]; exact hl
  have da := (partN_d true h hl).2
  have db := (partN_d false h1 hl1).2
  obtain ⟨p1, p2⟩ := partN_d o h3 hl3
  have hs : ownI o l < (narL n l).sets.length := ownI_lt o hl3
  refine p1.1.eq (h3.sets _ hs).1 (fun d => ?_)
  rw [p2 d]
  have ea := narL_af hl
  have eb := narL_be hl
  have e1 := nar1_af hl
  have e2 := nar1_be hl
  cases o
  · show HasDay (setAt (narL n l).sets l.be.toNat) d ∧ (∃ e, HasDay (setAt (narL n l).sets l.af.toNat) e ∧ -l.mo ≤ d - e ∧ d - e ≤ -l.le) ↔ HasDay (setAt (narL n l).sets l.be.toNat) d
    refine ⟨fun hh => hh.1, fun hh => ⟨hh, ?_⟩⟩
    rw [eb] at hh
    obtain ⟨_, e, he, x, y⟩ := (db d).1 hh
    refine ⟨e, ?_, x, y⟩
    have he' : HasDay (setAt (nar1 n l).sets l.af.toNat) e := he
    rw [e1] at he'
    rw [ea]
    exact he'
  · show HasDay (setAt (narL n l).sets l.af.toNat) d ∧ (∃ e, HasDay (setAt (narL n l).sets l.be.toNat) e ∧ l.le ≤ d - e ∧ d - e ≤ l.mo) ↔ HasDay (setAt (narL n l).sets l.af.toNat) d
    refine ⟨fun hh => hh.1, fun hh => ⟨hh, ?_⟩⟩
    have hh' := hh
    rw [ea] at hh
    obtain ⟨hd, e, he, x, y⟩ := (da d).1 hh
    have he' : HasDay (setAt n.sets l.be.toNat) e := he
    refine ⟨e, ?_, x, y⟩
    rw [eb, db e]
    refine ⟨?_, d, ?_, ?_, ?_⟩
    · show HasDay (setAt (nar1 n l).sets l.be.toNat) e
      rw [e2]; exact he'
    · show HasDay (setAt (nar1 n l).sets l.af.toNat) d
      rw [e1]; exact hh
    · show -l.mo ≤ e - d
      have y' : d - e ≤ l.mo := y
      omega
    · show e - d ≤ -l.le
      have x' : l.le ≤ d - e := x
      omega
/-- one day put in a set's place -/
def putDay (n : Net) (v : Nat) (d : Int) : Net := ⟨n.sets.set v [⟨d, d⟩], n.links⟩
theorem oneDay_ok {d : Int} (h : DayOk d) : SetOk [⟨d, d⟩] := ⟨by simp, fun i hi => by
  obtain rfl : i = 0 := by simpa using hi
  exact ⟨⟨h, h, Int.le_refl _⟩, fun hh => absurd hh (by omega)⟩⟩
theorem oneDay_has {d e : Int} : HasDay [⟨d, d⟩] e ↔ e = d := by
  constructor
  · rintro ⟨i, hi, a, b⟩
    obtain rfl : i = 0 := by simpa using hi
    have a' : d ≤ e := a
    have b' : e ≤ d := b
    omega
  · intro e1
    subst e1
    exact ⟨0, by simp, Int.le_refl _, Int.le_refl _⟩
theorem putDay_ok {n : Net} (h : NetOk n) {v : Nat} {d : Int} (hd : DayOk d) : NetOk (putDay n v d) := by
  refine ⟨by show (n.sets.set _ _).length ≤ 8; rw [List.length_set]; exact h.1, h.2.1, fun i hi => ?_, fun i hi => ?_⟩
  · have hi' : i < n.sets.length := by have : i < (n.sets.set v [⟨d, d⟩]).length := hi; rwa [List.length_set] at this
    show SetOk (setAt (n.sets.set v [⟨d, d⟩]) i)
    rw [setAt_put]
    split
    · exact oneDay_ok hd
    · exact h.2.2.1 i hi'
  · show LkOk (lkAt n.links i) (n.sets.set v [⟨d, d⟩]).length
    rw [List.length_set]
    exact h.2.2.2 i hi
theorem not_own {o : Bool} {l : Lk} : ownI (!o) l = othI o l ∧ othI (!o) l = ownI o l ∧ loI (!o) l = -hiI o l ∧ hiI (!o) l = -loI o l := by
  cases o
  · refine ⟨rfl, rfl, ?_, ?_⟩
    · show l.le = - -l.le; omega
    · show l.mo = - -l.mo; omega
  · exact ⟨rfl, rfl, rfl, rfl⟩
theorem hiI_neg (o : Bool) (l : Lk) : loI o l = -hiI (!o) l ∧ hiI o l = -loI (!o) l := by
  cases o
  · show -l.mo = -l.mo ∧ -l.le = -l.le; exact ⟨rfl, rfl⟩
  · show l.le = - -l.le ∧ l.mo = - -l.mo; omega
theorem own_oth {o : Bool} {l : Lk} {N : Nat} (h : LkOk l N) : ownI o l ≠ othI o l := by
  cases o
  · exact fun e => h.ne e.symm
  · exact h.ne
theorem mkL_one (s : Sp) : (mkL [s]).length ≤ 1 := mkL_len [s]
/-- a day has a partner exactly if fixing it leaves a day for the other variable -/
theorem part_fix {n : Net} {l : Lk} (h : NetOk n) (hl : LkOk l n.sets.length) {o : Bool} {d : Int} (hd : HasDay (setAt n.sets (ownI o l)) d) :
    (partN (putDay n (ownI o l) d) l (!o)).length ≤ 300 ∧ (HasDay (partN n l o) d ↔ 0 < (partN (putDay n (ownI o l) d) l (!o)).length) := by
  have hday : DayOk d := (h.2.2.1 _ (ownI_lt o hl)).d.day hd
  have hf := putDay_ok h (v := ownI o l) hday
  have hns : (putDay n (ownI o l) d).sets.length = n.sets.length := by show (n.sets.set _ _).length = _; rw [List.length_set]
  have hl2 : LkOk l (putDay n (ownI o l) d).sets.length := by rw [hns]; exact hl
  obtain ⟨p1, p2⟩ := partN_d (!o) hf.d hl2
  obtain ⟨q1, q2⟩ := partN_d o h.d hl
  obtain ⟨e1, e2, e3, e4⟩ := not_own (o := o) (l := l)
  have s1 : setAt (putDay n (ownI o l) d).sets (ownI (!o) l) = setAt n.sets (othI o l) := by
    rw [e1]
    show setAt (n.sets.set _ _) _ = _
    rw [setAt_put, if_neg (fun hh => own_oth hl hh.1.symm)]
  have s2 : setAt (putDay n (ownI o l) d).sets (othI (!o) l) = [⟨d, d⟩] := by
    rw [e2]
    show setAt (n.sets.set _ _) _ = _
    rw [setAt_put, if_pos ⟨rfl, ownI_lt o hl⟩]
  refine ⟨?_, ?_⟩
  · show (metL (setAt (putDay n (ownI o l) d).sets (ownI (!o) l)) (mkL (shTo _ _ (setAt (putDay n (ownI o l) d).sets (othI (!o) l)) (setAt (putDay n (ownI o l) d).sets (othI (!o) l)).length))).length ≤ 300
    rw [s1, s2]
    refine metL_one (h.2.2.1 _ (othI_lt o hl)).1 ?_
    refine Nat.le_trans (mkL_len _) ?_
    rw [shTo_len]
    exact Nat.le_refl _
  · have hbnd := hiI_neg o l
    constructor
    · intro hh
      obtain ⟨_, e, he, x, y⟩ := (q2 d).1 hh
      have : HasDay (partN (putDay n (ownI o l) d) l (!o)) e := by
        rw [p2 e, s1, s2]
        refine ⟨he, d, oneDay_has.2 rfl, ?_, ?_⟩
        · rw [e3]; omega
        · rw [e4]; omega
      obtain ⟨i, hi, _⟩ := this
      omega
    · intro hp
      obtain ⟨e, he⟩ : ∃ e, HasDay (partN (putDay n (ownI o l) d) l (!o)) e := ⟨(spAt _ 0).fr, 0, hp, Int.le_refl _, (p1.1 0 hp).1⟩
      rw [p2 e, s1, s2] at he
      obtain ⟨he1, d', hd', x, y⟩ := he
      rw [oneDay_has] at hd'
      subst hd'
      rw [q2]
      refine ⟨hd, e, he1, ?_, ?_⟩
      · rw [e4] at y; omega
      · rw [e3] at x; omega
end Go.Proofs.Ytfajmlkiidnhlaa
