/- Texts merged (a claim holds at most sixty files): Po, Yp. -/
import Derived.Test.YtfajmlkiidnhlaaGreatQ3Zs
import Derived.Test.YtfajmlkiidnhlaaGreatQ3In
import Derived.Test.YtfajmlkiidnhlaaGreatQ3Up
/- Plain: possible days; the solved network. -/
namespace Go.Proofs.YtfajmlkiidnhlaaGreat
set_option linter.unusedVariables false
set_option linter.unusedSimpArgs false

/-- the days of a variable in a choice -/
def sAt (n : Net) (i : Nat) (c : List Sp) : Sp := ⟨inAt (lowV n.links c) i, inAt (highV n.links c) i⟩
def Known (l : List Sp) (s : Sp) : Prop := ∃ j, j < l.length ∧ (spAt l j).fr ≤ s.fr ∧ s.to ≤ (spAt l j).to
/-- the reference's list of a variable, the choices below k -/
noncomputable def psTo (n : Net) (i : Nat) : Nat → List Sp
  | 0 => []
  | k + 1 => bif B (ChOk n.links (chN n.sets k) ∧ ¬ Known (psTo n i k) (sAt n i (chN n.sets k))) then psTo n i k ++ [sAt n i (chN n.sets k)] else psTo n i k
theorem psTo_yes {n : Net} {i k : Nat} (h : ChOk n.links (chN n.sets k)) (h2 : ¬ Known (psTo n i k) (sAt n i (chN n.sets k))) : psTo n i (k + 1) = psTo n i k ++ [sAt n i (chN n.sets k)] := by
  show (bif B (ChOk n.links (chN n.sets k) ∧ ¬ Known (psTo n i k) (sAt n i (chN n.sets k))) then _ else _) = _
  rw [B_true ⟨h, h2⟩]; rfl
theorem psTo_no {n : Net} {i k : Nat} (h : ¬ (ChOk n.links (chN n.sets k) ∧ ¬ Known (psTo n i k) (sAt n i (chN n.sets k)))) : psTo n i (k + 1) = psTo n i k := by
  show (bif B (ChOk n.links (chN n.sets k) ∧ ¬ Known (psTo n i k) (sAt n i (chN n.sets k))) then _ else _) = _
  rw [B_false h]; rfl
/-- the program's list of a variable -/
noncomputable def imL (n : Net) (i : Nat) (l : List (List Sp)) : List Sp := (okCh n.links l).map (sAt n i)
theorem spAt_end (l : List Sp) (x : Sp) {i : Nat} (hi : i < l.length + 1) : spAt (l ++ [x]) i = if i = l.length then x else spAt l i := by
  unfold spAt
  rw [List.getD_eq_getElem?_getD, List.getD_eq_getElem?_getD]
  by_cases h2 : i = l.length
  · subst h2; simp
  · rw [if_neg h2, List.getElem?_append_left (by omega)]
theorem hasDay_mem {l : List Sp} {d : Int} : HasDay l d ↔ ∃ s, s ∈ l ∧ s.fr ≤ d ∧ d ≤ s.to := by
  constructor
  · rintro ⟨i, hi, a, b⟩
    exact ⟨_, spAt_mem hi, a, b⟩
  · rintro ⟨s, hs, a, b⟩
    obtain ⟨i, hi, e⟩ := mem_spAt hs
    exact ⟨i, hi, by rw [e]; exact a, by rw [e]; exact b⟩
theorem psTo_mem {n : Net} {i : Nat} {s : Sp} : ∀ k, s ∈ psTo n i k → ∃ c, c < k ∧ ChOk n.links (chN n.sets c) ∧ s = sAt n i (chN n.sets c)
  | 0, h => by simp [psTo] at h
  | k + 1, h => by
    by_cases hc : ChOk n.links (chN n.sets k) ∧ ¬ Known (psTo n i k) (sAt n i (chN n.sets k))
    · rw [psTo_yes hc.1 hc.2] at h
      rcases List.mem_append.1 h with h | h
      · obtain ⟨c, h1, h2⟩ := psTo_mem k h
        exact ⟨c, by omega, h2⟩
      · exact ⟨k, by omega, hc.1, by simpa using h⟩
    · rw [psTo_no hc] at h
      obtain ⟨c, h1, h2⟩ := psTo_mem k h
      exact ⟨c, by omega, h2⟩
theorem psTo_day {n : Net} {i : Nat} {d : Int} : ∀ k, (∃ c, c < k ∧ ChOk n.links (chN n.sets c) ∧ (sAt n i (chN n.sets c)).fr ≤ d ∧ d ≤ (sAt n i (chN n.sets c)).to) → HasDay (psTo n i k) d
  | 0, h => by obtain ⟨c, h, _⟩ := h; omega
  | k + 1, h => by
    have keep : HasDay (psTo n i k) d → HasDay (psTo n i (k + 1)) d := by
      intro hd
      by_cases hc : ChOk n.links (chN n.sets k) ∧ ¬ Known (psTo n i k) (sAt n i (chN n.sets k))
      · rw [psTo_yes hc.1 hc.2]
        rw [hasDay_mem] at hd ⊢
        obtain ⟨s, hs, h1⟩ := hd
        exact ⟨s, List.mem_append.2 (.inl hs), h1⟩
      · rw [psTo_no hc]; exact hd
    obtain ⟨c, h1, h2, h3, h4⟩ := h
    by_cases e : c = k
    · subst e
      by_cases hk : Known (psTo n i c) (sAt n i (chN n.sets c))
      · obtain ⟨j, hj, a, b⟩ := hk
        exact keep ⟨j, hj, by omega, by omega⟩
      · rw [psTo_yes h2 hk, hasDay_mem]
        exact ⟨_, List.mem_append.2 (.inr (by simp)), h3, h4⟩
    · exact keep (psTo_day k ⟨c, by omega, h2, h3, h4⟩)
theorem psTo_len (n : Net) (i : Nat) : ∀ k, (psTo n i k).length ≤ k
  | 0 => by simp [psTo]
  | k + 1 => by
    have ih := psTo_len n i k
    by_cases hc : ChOk n.links (chN n.sets k) ∧ ¬ Known (psTo n i k) (sAt n i (chN n.sets k))
    · rw [psTo_yes hc.1 hc.2]; simp; omega
    · rw [psTo_no hc]; omega
/-- the spans of choices are spans of days -/
theorem sAt_ok {n : Net} (h : NetOk n) {c : List Sp} (hc : IsCh n.sets c) (ho : ChOk n.links c) {i : Nat} (hi : i < n.sets.length) : (sAt n i c).fr ≤ (sAt n i c).to ∧ DayOk (sAt n i c).fr ∧ DayOk (sAt n i c).to := by
  have hcl := hc.len
  have hl : LksOk n.links c.length := by rw [hcl]; exact h.2.2.2
  obtain ⟨l1, l2⟩ := ho.low hl
  obtain ⟨g1, g2⟩ := ho.high hl
  have hil : i < c.length := by omega
  refine ⟨g2 _ l1 i hil, ?_, ?_⟩
  · exact (h.2.2.1 i hi).d.day (chSol_days hc l1 hi)
  · exact (h.2.2.1 i hi).d.day (chSol_days hc g1 hi)
theorem mkL_d {l : List Sp} (h1 : FromTo l) (h2 : ∀ d, HasDay l d → DayOk d) : SetD (mkL l) := by
  obtain ⟨a, b⟩ := mkL_ok h1
  refine ⟨a, fun i hi => ⟨h2 _ ((b _).1 ⟨i, hi, Int.le_refl _, (a i hi).1⟩), h2 _ ((b _).1 ⟨i, hi, (a i hi).1, Int.le_refl _⟩)⟩⟩
noncomputable def posL (n : Net) (i : Nat) : List Sp := mkL (psTo n i (prodN n.sets))
theorem mem_fromTo {l : List Sp} (h : ∀ s, s ∈ l → s.fr ≤ s.to ∧ DayOk s.fr ∧ DayOk s.to) : FromTo l ∧ ∀ d, HasDay l d → DayOk d :=
  ⟨fun i hi => (h _ (spAt_mem hi)).1, fun d hd => by
    obtain ⟨s, hs, a, b⟩ := hasDay_mem.1 hd
    obtain ⟨_, ⟨c1, c2⟩, ⟨d1, d2⟩⟩ := h s hs
    unfold DayOk
    omega⟩
theorem psTo_ok {n : Net} (h : NetOk n) {i : Nat} (hi : i < n.sets.length) {k : Nat} (hk : k ≤ prodN n.sets) : ∀ s, s ∈ psTo n i k → s.fr ≤ s.to ∧ DayOk s.fr ∧ DayOk s.to := by
  intro s hs
  obtain ⟨c, h1, h2, rfl⟩ := psTo_mem k hs
  exact sAt_ok h (chN_isCh n.sets c (by omega)) h2 hi
theorem imL_ok {n : Net} (h : NetOk n) {i : Nat} (hi : i < n.sets.length) {l : List (List Sp)} (hl : ∀ c, c ∈ l → IsCh n.sets c) : ∀ s, s ∈ imL n i l → s.fr ≤ s.to ∧ DayOk s.fr ∧ DayOk s.to := by
  intro s hs
  obtain ⟨c, hc, rfl⟩ := List.mem_map.1 hs
  obtain ⟨h1, h2⟩ := mem_okCh.1 hc
  exact sAt_ok h (hl c h1) h2 hi
theorem allCh_isCh {n : Net} {c : List Sp} (h : c ∈ allCh n.sets []) : IsCh n.sets c := by
  obtain ⟨t, ht, e⟩ := mem_allCh.1 h
  have e' : c = t := e
  rw [e']; exact ht
theorem posL_d {n : Net} (h : NetOk n) {i : Nat} (hi : i < n.sets.length) : SetD (posL n i) := by
  obtain ⟨h1, h2⟩ := mem_fromTo (psTo_ok h hi (Nat.le_refl _))
  exact mkL_d h1 h2
/-- the program's spans make the same set -/
theorem imL_pos {n : Net} (h : NetOk n) {i : Nat} (hi : i < n.sets.length) : mkL (imL n i (allCh n.sets [])) = posL n i := by
  obtain ⟨h1, _⟩ := mem_fromTo (psTo_ok h hi (Nat.le_refl _))
  obtain ⟨h3, _⟩ := mem_fromTo (imL_ok h hi (l := allCh n.sets []) (fun c hc => allCh_isCh hc))
  obtain ⟨a1, a2⟩ := mkL_ok h1
  obtain ⟨b1, b2⟩ := mkL_ok h3
  refine b1.eq a1 (fun d => ?_)
  rw [b2]
  show _ ↔ HasDay (mkL (psTo n i (prodN n.sets))) d
  rw [a2]
  constructor
  · intro hd
    obtain ⟨s, hs, x, y⟩ := hasDay_mem.1 hd
    obtain ⟨c, hc, rfl⟩ := List.mem_map.1 hs
    obtain ⟨h5, h6⟩ := mem_okCh.1 hc
    obtain ⟨k, hk, e⟩ := (mem_numCh (prodN n.sets)).1 (mem_both.2 h5)
    exact psTo_day _ ⟨k, hk, by rw [e]; exact h6, by rw [e]; exact x, by rw [e]; exact y⟩
  · intro hd
    obtain ⟨s, hs, x, y⟩ := hasDay_mem.1 hd
    obtain ⟨k, hk, h6, rfl⟩ := psTo_mem _ hs
    refine hasDay_mem.2 ⟨_, List.mem_map.2 ⟨chN n.sets k, mem_okCh.2 ⟨mem_both.1 ((mem_numCh _).2 ⟨k, hk, rfl⟩), h6⟩, rfl⟩, x, y⟩
noncomputable def posSS (n : Net) : List (List Sp) := (List.range n.sets.length).map (posL n)
theorem posSS_len (n : Net) : (posSS n).length = n.sets.length := by simp [posSS]
theorem posSS_at {n : Net} {i : Nat} (h : i < n.sets.length) : setAt (posSS n) i = posL n i := by
  unfold setAt posSS
  rw [List.getD_eq_getElem?_getD, List.getElem?_map, List.getElem?_range h]
  rfl
noncomputable def svN (n : Net) : Net := ⟨posSS n, n.links⟩
theorem svN_d {n : Net} (h : NetOk n) : NetD (svN n) := by
  refine ⟨by rw [show (svN n).sets = posSS n from rfl, posSS_len]; exact h.1, h.2.1, fun i hi => ?_, fun i hi => ?_⟩
  · have hi' : i < n.sets.length := by rw [← posSS_len n]; exact hi
    show SetD (setAt (posSS n) i)
    rw [posSS_at hi']
    exact posL_d h hi'
  · show LkOk (lkAt n.links i) (posSS n).length
    rw [posSS_len]
    exact h.2.2.2 i hi
end Go.Proofs.YtfajmlkiidnhlaaGreat

/- Plain: partners of days; a link that has been narrowed; a day that is fixed. -/
namespace Go.Proofs.YtfajmlkiidnhlaaGreat
set_option linter.unusedVariables false
set_option linter.unusedSimpArgs false

/-- a set and one that is not empty have few spans in common -/
theorem metTo_few {a b : List Sp} (ha : 0 < a.length) (hb : 0 < b.length) : ∀ t, (metTo a b t).out.length ≤ (metTo a b t).i + (metTo a b t).k ∧ (metTo a b t).i ≤ a.length ∧ (metTo a b t).k ≤ b.length ∧ (metTo a b t).i + (metTo a b t).k < a.length + b.length
  | 0 => ⟨Nat.le_refl _, Nat.zero_le _, Nat.zero_le _, by show 0 + 0 < _; omega⟩
  | t + 1 => by
    obtain ⟨h1, h2, h3, h4⟩ := metTo_few ha hb t
    have hl := metOut_len a b (metTo a b t).i (metTo a b t).k (metTo a b t).out
    have e : metTo a b (t + 1) = metNext a b (metTo a b t) := rfl
    rw [e]
    generalize metTo a b t = s at *
    by_cases h : s.i < a.length ∧ s.k < b.length
    · by_cases h5 : (spAt a s.i).to < (spAt b s.k).to
      · have e2 : metNext a b s = ⟨s.i + 1, s.k, metOut a b s.i s.k s.out⟩ := by unfold metNext; rw [if_pos h, if_pos h5]
        rw [e2]
        refine ⟨?_, ?_, ?_, ?_⟩
        · show (metOut a b s.i s.k s.out).length ≤ s.i + 1 + s.k; omega
        · show s.i + 1 ≤ _; omega
        · exact h3
        · show s.i + 1 + s.k < _; omega
      · have e2 : metNext a b s = ⟨s.i, s.k + 1, metOut a b s.i s.k s.out⟩ := by unfold metNext; rw [if_pos h, if_neg h5]
        rw [e2]
        refine ⟨?_, ?_, ?_, ?_⟩
        · show (metOut a b s.i s.k s.out).length ≤ s.i + (s.k + 1); omega
        · exact h2
        · show s.k + 1 ≤ _; omega
        · show s.i + (s.k + 1) < _; omega
    · have e2 : metNext a b s = s := by unfold metNext; rw [if_neg h]
      rw [e2]
      exact ⟨h1, h2, h3, h4⟩
theorem metL_one {a b : List Sp} (ha : a.length ≤ 300) (hb : b.length ≤ 1) : (metL a b).length ≤ 300 := by
  unfold metL
  by_cases h : 0 < a.length ∧ 0 < b.length
  · have := metTo_few h.1 h.2 (a.length + b.length)
    omega
  · have := metTo_len a b (a.length + b.length)
    have h2 : ∀ t, (metTo a b t).out = [] := by
      intro t
      have h0 : ¬ ((metTo a b 0).i < a.length ∧ (metTo a b 0).k < b.length) := by
        show ¬ (0 < a.length ∧ 0 < b.length)
        exact h
      have := metTo_end h0 t
      rw [Nat.zero_add] at this
      rw [this]
      rfl
    rw [h2]
    simp
theorem LkOk.ne {l : Lk} {N : Nat} (h : LkOk l N) : l.af.toNat ≠ l.be.toNat := by
  obtain ⟨⟨a1, a2⟩, ⟨b1, b2⟩, c, _⟩ := h
  omega
theorem LkOk.lt {l : Lk} {N : Nat} (h : LkOk l N) : l.af.toNat < N ∧ l.be.toNat < N := by
  obtain ⟨⟨a1, a2⟩, ⟨b1, b2⟩, c, _⟩ := h
  omega
/-- the sets of a network whose link has been narrowed -/
theorem narL_af {n : Net} {l : Lk} (hl : LkOk l n.sets.length) : setAt (narL n l).sets l.af.toNat = partN n l true := by
  show setAt ((n.sets.set l.af.toNat (partN n l true)).set l.be.toNat (partN (nar1 n l) l false)) l.af.toNat = _
  rw [setAt_put, if_neg (fun h => hl.ne h.1), setAt_put, if_pos ⟨rfl, hl.lt.1⟩]
theorem narL_be {n : Net} {l : Lk} (hl : LkOk l n.sets.length) : setAt (narL n l).sets l.be.toNat = partN (nar1 n l) l false := by
  show setAt ((n.sets.set l.af.toNat (partN n l true)).set l.be.toNat (partN (nar1 n l) l false)) l.be.toNat = _
  rw [setAt_put, if_pos ⟨rfl, by rw [List.length_set]; exact hl.lt.2⟩]
theorem nar1_af {n : Net} {l : Lk} (hl : LkOk l n.sets.length) : setAt (nar1 n l).sets l.af.toNat = partN n l true := by
  show setAt (n.sets.set l.af.toNat (partN n l true)) l.af.toNat = _
  rw [setAt_put, if_pos ⟨rfl, hl.lt.1⟩]
theorem nar1_be {n : Net} {l : Lk} (hl : LkOk l n.sets.length) : setAt (nar1 n l).sets l.be.toNat = setAt n.sets l.be.toNat := by
  show setAt (n.sets.set l.af.toNat (partN n l true)) l.be.toNat = _
  rw [setAt_put, if_neg (fun h => hl.ne h.1.symm)]
/-- the partners of a narrowed link's days are its days -/
theorem narL_part {n : Net} {l : Lk} (h : NetD n) (hl : LkOk l n.sets.length) (o : Bool) : partN (narL n l) l o = setAt (narL n l).sets (ownI o l) := by
  obtain ⟨h1, h2⟩ := nar1_ok h hl
  obtain ⟨h3, h4⟩ := narL_ok h hl
  have hl1 : LkOk l (nar1 n l).sets.length := by rw [h2.ns]; exact hl
  have hl3 : LkOk l (narL n l).sets.length := by rw [h4.ns]; exact hl
  have da := (partN_d true h hl).2
  have db := (partN_d false h1 hl1).2
  obtain ⟨p1, p2⟩ := partN_d o h3 hl3
  have hs : ownI o l < (narL n l).sets.length := ownI_lt o hl3
  refine p1.1.eq (h3.sets _ hs).1 (fun d => ?_)
  rw [p2 d]
  have ea := narL_af hl
  have eb := narL_be hl
  have e1 := nar1_af hl
  have e2 := nar1_be hl
  cases o
  · show HasDay (setAt (narL n l).sets l.be.toNat) d ∧ (∃ e, HasDay (setAt (narL n l).sets l.af.toNat) e ∧ -l.mo ≤ d - e ∧ d - e ≤ -l.le) ↔ HasDay (setAt (narL n l).sets l.be.toNat) d
    refine ⟨fun hh => hh.1, fun hh => ⟨hh, ?_⟩⟩
    rw [eb] at hh
    obtain ⟨_, e, he, x, y⟩ := (db d).1 hh
    refine ⟨e, ?_, x, y⟩
    have he' : HasDay (setAt (nar1 n l).sets l.af.toNat) e := he
    rw [e1] at he'
    rw [ea]
    exact he'
  · show HasDay (setAt (narL n l).sets l.af.toNat) d ∧ (∃ e, HasDay (setAt (narL n l).sets l.be.toNat) e ∧ l.le ≤ d - e ∧ d - e ≤ l.mo) ↔ HasDay (setAt (narL n l).sets l.af.toNat) d
    refine ⟨fun hh => hh.1, fun hh => ⟨hh, ?_⟩⟩
    have hh' := hh
    rw [ea] at hh
    obtain ⟨hd, e, he, x, y⟩ := (da d).1 hh
    have he' : HasDay (setAt n.sets l.be.toNat) e := he
    refine ⟨e, ?_, x, y⟩
    rw [eb, db e]
    refine ⟨?_, d, ?_, ?_, ?_⟩
    · show HasDay (setAt (nar1 n l).sets l.be.toNat) e
      rw [e2]; exact he'
    · show HasDay (setAt (nar1 n l).sets l.af.toNat) d
      rw [e1]; exact hh
    · show -l.mo ≤ e - d
      have y' : d - e ≤ l.mo := y
      omega
    · show e - d ≤ -l.le
      have x' : l.le ≤ d - e := x
      omega
/-- one day put in a set's place -/
def putDay (n : Net) (v : Nat) (d : Int) : Net := ⟨n.sets.set v [⟨d, d⟩], n.links⟩
theorem oneDay_ok {d : Int} (h : DayOk d) : SetOk [⟨d, d⟩] := ⟨by simp, fun i hi => by
  obtain rfl : i = 0 := by simpa using hi
  exact ⟨⟨h, h, Int.le_refl _⟩, fun hh => absurd hh (by omega)⟩⟩
theorem oneDay_has {d e : Int} : HasDay [⟨d, d⟩] e ↔ e = d := by
  constructor
  · rintro ⟨i, hi, a, b⟩
    obtain rfl : i = 0 := by simpa using hi
    have a' : d ≤ e := a
    have b' : e ≤ d := b
    omega
  · intro e1
    subst e1
    exact ⟨0, by simp, Int.le_refl _, Int.le_refl _⟩
theorem putDay_ok {n : Net} (h : NetOk n) {v : Nat} {d : Int} (hd : DayOk d) : NetOk (putDay n v d) := by
  refine ⟨by show (n.sets.set _ _).length ≤ 8; rw [List.length_set]; exact h.1, h.2.1, fun i hi => ?_, fun i hi => ?_⟩
  · have hi' : i < n.sets.length := by have : i < (n.sets.set v [⟨d, d⟩]).length := hi; rwa [List.length_set] at this
    show SetOk (setAt (n.sets.set v [⟨d, d⟩]) i)
    rw [setAt_put]
    split
    · exact oneDay_ok hd
    · exact h.2.2.1 i hi'
  · show LkOk (lkAt n.links i) (n.sets.set v [⟨d, d⟩]).length
    rw [List.length_set]
    exact h.2.2.2 i hi
theorem not_own {o : Bool} {l : Lk} : ownI (!o) l = othI o l ∧ othI (!o) l = ownI o l ∧ loI (!o) l = -hiI o l ∧ hiI (!o) l = -loI o l := by
  cases o
  · refine ⟨rfl, rfl, ?_, ?_⟩
    · show l.le = - -l.le; omega
    · show l.mo = - -l.mo; omega
  · exact ⟨rfl, rfl, rfl, rfl⟩
theorem hiI_neg (o : Bool) (l : Lk) : loI o l = -hiI (!o) l ∧ hiI o l = -loI (!o) l := by
  cases o
  · show -l.mo = -l.mo ∧ -l.le = -l.le; exact ⟨rfl, rfl⟩
  · show l.le = - -l.le ∧ l.mo = - -l.mo; omega
theorem own_oth {o : Bool} {l : Lk} {N : Nat} (h : LkOk l N) : ownI o l ≠ othI o l := by
  cases o
  · exact fun e => h.ne e.symm
  · exact h.ne
theorem mkL_one (s : Sp) : (mkL [s]).length ≤ 1 := mkL_len [s]
/-- a day has a partner exactly if fixing it leaves a day for the other variable -/
theorem part_fix {n : Net} {l : Lk} (h : NetOk n) (hl : LkOk l n.sets.length) {o : Bool} {d : Int} (hd : HasDay (setAt n.sets (ownI o l)) d) :
    (partN (putDay n (ownI o l) d) l (!o)).length ≤ 300 ∧ (HasDay (partN n l o) d ↔ 0 < (partN (putDay n (ownI o l) d) l (!o)).length) := by
  have hday : DayOk d := (h.2.2.1 _ (ownI_lt o hl)).d.day hd
  have hf := putDay_ok h (v := ownI o l) hday
  have hns : (putDay n (ownI o l) d).sets.length = n.sets.length := by show (n.sets.set _ _).length = _; rw [List.length_set]
  have hl2 : LkOk l (putDay n (ownI o l) d).sets.length := by rw [hns]; exact hl
  obtain ⟨p1, p2⟩ := partN_d (!o) hf.d hl2
  obtain ⟨q1, q2⟩ := partN_d o h.d hl
  obtain ⟨e1, e2, e3, e4⟩ := not_own (o := o) (l := l)
  have s1 : setAt (putDay n (ownI o l) d).sets (ownI (!o) l) = setAt n.sets (othI o l) := by
    rw [e1]
    show setAt (n.sets.set _ _) _ = _
    rw [setAt_put, if_neg (fun hh => own_oth hl hh.1.symm)]
  have s2 : setAt (putDay n (ownI o l) d).sets (othI (!o) l) = [⟨d, d⟩] := by
    rw [e2]
    show setAt (n.sets.set _ _) _ = _
    rw [setAt_put, if_pos ⟨rfl, ownI_lt o hl⟩]
  refine ⟨?_, ?_⟩
  · show (metL (setAt (putDay n (ownI o l) d).sets (ownI (!o) l)) (mkL (shTo _ _ (setAt (putDay n (ownI o l) d).sets (othI (!o) l)) (setAt (putDay n (ownI o l) d).sets (othI (!o) l)).length))).length ≤ 300
    rw [s1, s2]
    refine metL_one (h.2.2.1 _ (othI_lt o hl)).1 ?_
    refine Nat.le_trans (mkL_len _) ?_
    rw [shTo_len]
    exact Nat.le_refl _
  · have hbnd := hiI_neg o l
    constructor
    · intro hh
      obtain ⟨_, e, he, x, y⟩ := (q2 d).1 hh
      have : HasDay (partN (putDay n (ownI o l) d) l (!o)) e := by
        rw [p2 e, s1, s2]
        refine ⟨he, d, oneDay_has.2 rfl, ?_, ?_⟩
        · rw [e3]; omega
        · rw [e4]; omega
      obtain ⟨i, hi, _⟩ := this
      omega
    · intro hp
      obtain ⟨e, he⟩ : ∃ e, HasDay (partN (putDay n (ownI o l) d) l (!o)) e := ⟨(spAt _ 0).fr, 0, hp, Int.le_refl _, (p1.1 0 hp).1⟩
      rw [p2 e, s1, s2] at he
      obtain ⟨he1, d', hd', x, y⟩ := he
      rw [oneDay_has] at hd'
      subst hd'
      rw [q2]
      refine ⟨hd, e, he1, ?_, ?_⟩
      · rw [e4] at y; omega
      · rw [e3] at x; omega
end Go.Proofs.YtfajmlkiidnhlaaGreat
