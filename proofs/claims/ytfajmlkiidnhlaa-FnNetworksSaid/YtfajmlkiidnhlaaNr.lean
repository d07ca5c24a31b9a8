/- Plain: networks that are narrowed, days that are counted. -/
import Derived.Test.YtfajmlkiidnhlaaPa
import Derived.Test.YtfajmlkiidnhlaaBf
namespace Go.Proofs.Ytfajmlkiidnhlaa
set_option linter.unusedVariables false
set_option linter.unusedSimpArgs false

theorem setAt_put (l : List (List Sp)) (v : Nat) (x : List Sp) (i : Nat) : setAt (l.set v x) i = if i = v ∧ i < l.length then x else setAt l i := by
  unfold setAt
  rw [List.getD_eq_getElem?_getD, List.getD_eq_getElem?_getD, List.getElem?_set]
  by_cases h : v = i
  · subst h
    by_cases h2 : v < l.length
    · simp [h2]
    · simp [h2, List.getElem?_eq_none (Nat.le_of_not_lt h2)]
  · rw [if_neg h, if_neg (fun hh => h hh.1.symm)]
theorem setAt_ext {a b : List (List Sp)} (hl : a.length = b.length) (h : ∀ i, i < a.length → setAt a i = setAt b i) : a = b := by
  refine List.ext_getElem hl (fun i h1 h2 => ?_)
  have := h i h1
  unfold setAt at this
  rw [List.getD_eq_getElem?_getD, List.getD_eq_getElem?_getD, List.getElem?_eq_getElem h1, List.getElem?_eq_getElem h2] at this
  exact this

/-! ### networks of sets that may have many spans -/
structure NetD (n : Net) : Prop where
  ns : n.sets.length ≤ 8
  nl : n.links.length ≤ 20
  sets : ∀ i, i < n.sets.length → SetD (setAt n.sets i)
  lks : ∀ i, i < n.links.length → LkOk (lkAt n.links i) n.sets.length
theorem NetOk.d {n : Net} (h : NetOk n) : NetD n := ⟨h.1, h.2.1, fun i hi => (h.2.2.1 i hi).d, h.2.2.2⟩
def Lim (n : Net) : Prop := ∀ i, i < n.sets.length → (setAt n.sets i).length ≤ 300
theorem NetOk.lim {n : Net} (h : NetOk n) : Lim n := fun i hi => (h.2.2.1 i hi).1
theorem netOk_iff {n : Net} (h : NetD n) : NetOk n ↔ Lim n := ⟨fun hh => hh.lim, fun hh => ⟨h.ns, h.nl, fun i hi => (h.sets i hi).ok (hh i hi), h.lks⟩⟩
/-- one network's days are the other's -/
structure Sub (m n : Net) : Prop where
  ns : m.sets.length = n.sets.length
  lk : m.links = n.links
  day : ∀ i, i < n.sets.length → ∀ d, HasDay (setAt m.sets i) d → HasDay (setAt n.sets i) d
theorem Sub.refl (n : Net) : Sub n n := ⟨rfl, rfl, fun _ _ _ h => h⟩
theorem Sub.trans {a b c : Net} (h : Sub a b) (g : Sub b c) : Sub a c := ⟨h.ns.trans g.ns, h.lk.trans g.lk, fun i hi d hd => g.day i hi d (h.day i (by rw [g.ns]; exact hi) d hd)⟩
theorem ownI_lt {n : Net} {l : Lk} (o : Bool) (h : LkOk l n.sets.length) : ownI o l < n.sets.length := by
  obtain ⟨⟨a, b⟩, ⟨c, d⟩, _⟩ := h
  cases o
  · show l.be.toNat < _; omega
  · show l.af.toNat < _; omega
theorem othI_lt {n : Net} {l : Lk} (o : Bool) (h : LkOk l n.sets.length) : othI o l < n.sets.length := by
  obtain ⟨⟨a, b⟩, ⟨c, d⟩, _⟩ := h
  cases o
  · show l.af.toNat < _; omega
  · show l.be.toNat < _; omega
theorem loI_le {l : Lk} (o : Bool) {N : Nat} (h : LkOk l N) : loI o l ≤ hiI o l := by
  have := h.2.2.2.2.2
  cases o
  · show -l.mo ≤ -l.le; omega
  · exact this
theorem partN_d {n : Net} {l : Lk} (o : Bool) (h : NetD n) (hl : LkOk l n.sets.length) : SetD (partN n l o) ∧ ∀ d, HasDay (partN n l o) d ↔ HasDay (setAt n.sets (ownI o l)) d ∧ ∃ e, HasDay (setAt n.sets (othI o l)) e ∧ loI o l ≤ d - e ∧ d - e ≤ hiI o l :=
  partL_ok (h.sets _ (ownI_lt o hl)) (h.sets _ (othI_lt o hl)).fromTo (loI_le o hl)
/-- one set of a network anew -/
theorem NetD.put {n : Net} (h : NetD n) (v : Nat) {x : List Sp} (hx : SetD x) : NetD ⟨n.sets.set v x, n.links⟩ := by
  refine ⟨by simpa using h.ns, h.nl, fun i hi => ?_, fun i hi => by simpa using h.lks i hi⟩
  have hi' : i < n.sets.length := by simpa using hi
  show SetD (setAt (n.sets.set v x) i)
  rw [setAt_put]
  split
  · exact hx
  · exact h.sets i hi'
theorem Sub.put {n : Net} (v : Nat) {x : List Sp} (hx : ∀ d, HasDay x d → HasDay (setAt n.sets v) d) : Sub ⟨n.sets.set v x, n.links⟩ n := by
  refine ⟨by simp, rfl, fun i hi d hd => ?_⟩
  have hd' : HasDay (setAt (n.sets.set v x) i) d := hd
  rw [setAt_put] at hd'
  split at hd'
  · rename_i hc
    rw [hc.1]
    exact hx d hd'
  · exact hd'
/-- a link narrows its variables -/
def nar1 (n : Net) (l : Lk) : Net := ⟨n.sets.set l.af.toNat (partN n l true), n.links⟩
def nar2 (n : Net) (l : Lk) : Net := ⟨n.sets.set l.be.toNat (partN n l false), n.links⟩
def narL (n : Net) (l : Lk) : Net := nar2 (nar1 n l) l
theorem nar1_ok {n : Net} {l : Lk} (h : NetD n) (hl : LkOk l n.sets.length) : NetD (nar1 n l) ∧ Sub (nar1 n l) n := by
  obtain ⟨h1, h2⟩ := partN_d true h hl
  exact ⟨h.put _ h1, Sub.put _ (fun d hd => ((h2 d).1 hd).1)⟩
theorem nar2_ok {n : Net} {l : Lk} (h : NetD n) (hl : LkOk l n.sets.length) : NetD (nar2 n l) ∧ Sub (nar2 n l) n := by
  obtain ⟨h1, h2⟩ := partN_d false h hl
  exact ⟨h.put _ h1, Sub.put _ (fun d hd => ((h2 d).1 hd).1)⟩
theorem narL_ok {n : Net} {l : Lk} (h : NetD n) (hl : LkOk l n.sets.length) : NetD (narL n l) ∧ Sub (narL n l) n := by
  obtain ⟨h1, h2⟩ := nar1_ok h hl
  obtain ⟨h3, h4⟩ := nar2_ok h1 (by rw [h2.ns]; exact hl)
  exact ⟨h3, h4.trans h2⟩
/-- all links, one after the other -/
def narTo (n : Net) (ls : List Lk) : Nat → Net
  | 0 => n
  | j + 1 => narL (narTo n ls j) (lkAt ls j)
def narR (n : Net) : Net := narTo n n.links n.links.length
theorem narTo_ok {n : Net} {ls : List Lk} (h : NetD n) (hl : ∀ i, i < ls.length → LkOk (lkAt ls i) n.sets.length) : ∀ j, j ≤ ls.length → NetD (narTo n ls j) ∧ Sub (narTo n ls j) n
  | 0, _ => ⟨h, Sub.refl n⟩
  | j + 1, hj => by
    obtain ⟨h1, h2⟩ := narTo_ok h hl j (by omega)
    obtain ⟨h3, h4⟩ := narL_ok (l := lkAt ls j) h1 (by rw [h2.ns]; exact hl j (by omega))
    exact ⟨h3, h4.trans h2⟩
theorem narR_ok {n : Net} (h : NetD n) : NetD (narR n) ∧ Sub (narR n) n := narTo_ok h h.lks _ (Nat.le_refl _)
noncomputable def limE (n : Net) : Int := bif B (Lim n) then 0 else 3
noncomputable def limV (n : Net) : Net := bif B (Lim n) then n else ⟨[], []⟩
theorem lim_yes {n : Net} (h : Lim n) : limE n = 0 ∧ limV n = n := by unfold limE limV; rw [B_true h]; exact ⟨rfl, rfl⟩
theorem lim_no {n : Net} (h : ¬ Lim n) : limE n = 3 ∧ limV n = ⟨[], []⟩ := by unfold limE limV; rw [B_false h]; exact ⟨rfl, rfl⟩

/-! ### days counted -/
theorem Nf.lt {l : List Sp} (h : Nf l) {i : Nat} : ∀ k, i < k → k < l.length → (spAt l i).to + 2 ≤ (spAt l k).fr
  | 0, h1, _ => absurd h1 (by omega)
  | k + 1, h1, h2 => by
    have h3 := (h (k + 1) h2).2 (by omega)
    rw [show k + 1 - 1 = k by omega] at h3
    by_cases e : i = k
    · subst e; exact h3
    · have h4 := Nf.lt (i := i) h k (by omega) (by omega)
      have h5 := (h k (by omega)).1
      omega
theorem cntB_none {p : Nat → Bool} {a : Nat} : ∀ b, a ≤ b → (∀ i, a ≤ i → i < b → p i = false) → cntB p b = cntB p a
  | 0, h, _ => by rw [show a = 0 by omega]
  | b + 1, h, hp => by
    by_cases e : a = b + 1
    · rw [e]
    · have h1 := cntB_none b (by omega) (fun i x y => hp i x (by omega))
      have h2 := hp b (by omega) (by omega)
      simp only [cntB, h2, h1]
      simp
theorem cntB_full {p : Nat → Bool} {a : Nat} : ∀ b, a ≤ b → (∀ i, a ≤ i → i < b → p i = true) → cntB p b = cntB p a + (b - a)
  | 0, h, _ => by rw [show a = 0 by omega]; rfl
  | b + 1, h, hp => by
    by_cases e : a = b + 1
    · rw [e]; omega
    · have h1 := cntB_full b (by omega) (fun i x y => hp i x (by omega))
      have h2 := hp b (by omega) (by omega)
      simp only [cntB, h2, h1, if_true]
      omega
noncomputable def hasB (l : List Sp) (d : Nat) : Bool := B (HasDay l d)
theorem hasB_true {l : List Sp} {d : Nat} : hasB l d = true ↔ HasDay l d := by
  unfold hasB
  by_cases h : HasDay l d
  · rw [B_true h]; exact ⟨fun _ => h, fun _ => rfl⟩
  · rw [B_false h]; exact ⟨fun hh => absurd hh (by simp), fun hh => absurd hh h⟩
theorem hasB_false {l : List Sp} {d : Nat} : hasB l d = false ↔ ¬ HasDay l d := by
  rw [← hasB_true]
  cases hasB l d <;> simp
theorem days_cnt {l : List Sp} (h : SetD l) : ∀ j, j ≤ l.length → ∀ D : Nat, (0 < j → (spAt l (j - 1)).to < D) → (j < l.length → (D : Int) ≤ (spAt l j).fr) → ((cntB (hasB l) D : Nat) : Int) = daysTo l j
  | 0, _, D, _, h2 => by
    have e : cntB (hasB l) D = cntB (hasB l) 0 := cntB_none D (Nat.zero_le _) (fun i _ hi => hasB_false.2 (fun hh => by
      obtain ⟨k, hk, a, b⟩ := hh
      have h3 := h2 (by omega)
      by_cases e0 : k = 0
      · subst e0; omega
      · have h4 := h.1.lt k (i := 0) (by omega) hk
        have h5 := (h.1 0 (by omega)).1
        omega))
    rw [e]
    rfl
  | j + 1, hj, D, h1, h2 => by
    have hjl : j < l.length := by omega
    obtain ⟨⟨f1, f2⟩, ⟨t1, t2⟩⟩ := h.2 j hjl
    have hft := (h.1 j hjl).1
    have h1' := h1 (by omega)
    rw [show j + 1 - 1 = j by omega] at h1'
    have ih := days_cnt h j (by omega) (spAt l j).fr.toNat (fun h0 => by
      have := (h.1 j hjl).2 h0
      omega) (fun _ => by omega)
    have e1 : cntB (hasB l) D = cntB (hasB l) ((spAt l j).to.toNat + 1) := cntB_none D (by omega) (fun i hi1 hi2 => hasB_false.2 (fun hh => by
      obtain ⟨k, hk, a, b⟩ := hh
      rcases Nat.lt_trichotomy k j with e | e | e
      · have := h.1.lt j e hjl; omega
      · subst e; omega
      · by_cases e0 : k = j + 1
        · subst e0; have := h2 hk; omega
        · have x1 := h.1.lt k (i := j + 1) (by omega) hk
          have x2 := (h.1 (j + 1) (by omega)).1
          have x3 := h2 (by omega)
          omega))
    have e2 : cntB (hasB l) ((spAt l j).to.toNat + 1) = cntB (hasB l) (spAt l j).fr.toNat + ((spAt l j).to.toNat + 1 - (spAt l j).fr.toNat) := cntB_full _ (by omega) (fun i hi1 hi2 => hasB_true.2 ⟨j, hjl, by omega, by omega⟩)
    rw [e1, e2]
    simp only [daysTo]
    omega
theorem daysTo_d {l : List Sp} (h : SetD l) : ∀ j, j ≤ l.length → 0 ≤ daysTo l j ∧ daysTo l j ≤ 730500
  | 0, _ => by simp [daysTo]
  | j + 1, hj => by
    obtain ⟨⟨f1, f2⟩, ⟨t1, t2⟩⟩ := h.2 j (by omega)
    have h1 := days_cnt h (j + 1) hj ((spAt l j).to.toNat + 1) (fun _ => by rw [show j + 1 - 1 = j by omega]; omega) (fun hl => by
      have := (h.1 (j + 1) hl).2 (by omega)
      rw [show j + 1 - 1 = j by omega] at this
      omega)
    have h2 := cntB_le (hasB l) ((spAt l j).to.toNat + 1)
    omega
theorem days_d {l : List Sp} (h : SetD l) : days l = ((cntB (hasB l) 730500 : Nat) : Int) :=
  (days_cnt h l.length (Nat.le_refl _) 730500 (fun h0 => by have := (h.2 (l.length - 1) (by omega)).2.2; omega) (fun hl => absurd hl (by omega))).symm
theorem days_sub {a b : List Sp} (ha : SetD a) (hb : SetD b) (h : ∀ d, HasDay a d → HasDay b d) : days a ≤ days b ∧ (days a = days b → a = b) := by
  have hm : ∀ i, i < 730500 → hasB a i = true → hasB b i = true := fun i _ hi => hasB_true.2 (h _ (hasB_true.1 hi))
  rw [days_d ha, days_d hb]
  refine ⟨by have := cntB_mono 730500 hm; omega, fun e => ha.1.eq hb.1 (fun d => ⟨h d, fun hd => ?_⟩)⟩
  apply Classical.byContradiction
  intro hn
  obtain ⟨d1, d2⟩ := hb.day hd
  have e2 : ((d.toNat : Nat) : Int) = d := by omega
  have := cntB_lt 730500 hm ⟨d.toNat, by omega, hasB_true.2 (by rw [e2]; exact hd), hasB_false.2 (by rw [e2]; exact hn)⟩
  omega
theorem netDaysTo_d {l : List (List Sp)} (h : ∀ i, i < l.length → SetD (setAt l i)) : ∀ k, k ≤ l.length → 0 ≤ netDaysTo l k ∧ netDaysTo l k ≤ k * 730500
  | 0, _ => by simp [netDaysTo]
  | k + 1, hk => by
    have h1 := netDaysTo_d h k (by omega)
    have h2 := daysTo_d (h k (by omega)) _ (Nat.le_refl _)
    simp only [netDaysTo]
    unfold days
    omega
theorem netDaysTo_sub {a b : List (List Sp)} (ha : ∀ i, i < a.length → SetD (setAt a i)) (hb : ∀ i, i < b.length → SetD (setAt b i)) (hl : a.length = b.length) (h : ∀ i, i < b.length → ∀ d, HasDay (setAt a i) d → HasDay (setAt b i) d) :
    ∀ k, k ≤ b.length → netDaysTo a k ≤ netDaysTo b k ∧ (netDaysTo a k = netDaysTo b k → ∀ i, i < k → setAt a i = setAt b i)
  | 0, _ => ⟨Int.le_refl _, fun _ i hi => absurd hi (by omega)⟩
  | k + 1, hk => by
    obtain ⟨h1, h2⟩ := netDaysTo_sub ha hb hl h k (by omega)
    obtain ⟨h3, h4⟩ := days_sub (ha k (by omega)) (hb k (by omega)) (h k (by omega))
    simp only [netDaysTo]
    refine ⟨by omega, fun e i hi => ?_⟩
    by_cases e2 : i = k
    · subst e2; exact h4 (by omega)
    · exact h2 (by omega) i (by omega)
theorem netDays_eq {m n : Net} (hm : NetD m) (hn : NetD n) (h : Sub m n) : netDays m.sets = netDays n.sets ↔ m.sets = n.sets := by
  constructor
  · intro e
    unfold netDays at e
    rw [h.ns] at e
    exact setAt_ext h.ns (fun i hi => (netDaysTo_sub hm.sets hn.sets h.ns h.day n.sets.length (Nat.le_refl _)).2 e i (by have := h.ns; omega))
  · intro e; rw [e]
end Go.Proofs.Ytfajmlkiidnhlaa
