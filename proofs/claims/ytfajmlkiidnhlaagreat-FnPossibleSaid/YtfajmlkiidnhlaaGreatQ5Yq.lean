/- Plain: a day is possible exactly if fixing it leaves a solution. -/
import Derived.Test.YtfajmlkiidnhlaaGreatQ5Po
import Derived.Test.YtfajmlkiidnhlaaGreatQ3K
import Derived.Test.YtfajmlkiidnhlaaGreatQ3Ha
namespace Go.Proofs.YtfajmlkiidnhlaaGreat
set_option linter.unusedVariables false
set_option linter.unusedSimpArgs false

/-- between the least and the greatest solution of a choice there is one for each day of a variable -/
theorem between {n : Net} {c : List Sp} (hk : LksOk n.links n.sets.length) (hc : IsCh n.sets c) (ho : ChOk n.links c) {v : Nat} (hv : v < n.sets.length) {d : Int} (h1 : (sAt n v c).fr ≤ d) (h2 : d ≤ (sAt n v c).to) :
    ∃ ds : List Int, ds.length = n.sets.length ∧ Solves n ds ∧ inAt ds v = d := by
  have hcl := hc.len
  have hl : LksOk n.links c.length := by rw [hcl]; exact hk
  obtain ⟨l1, l2⟩ := ho.low hl
  obtain ⟨g1, g2⟩ := ho.high hl
  have h1' : inAt (lowV n.links c) v ≤ d := h1
  have h2' : d ≤ inAt (highV n.links c) v := h2
  have hq : ChSol n.links c (fun i => max (inAt (lowV n.links c) i) (inAt (highV n.links c) i - (inAt (highV n.links c) v - d))) := by
    refine ⟨fun a b x hx => ?_, fun i hi => ?_⟩
    · have e1 := l1.1 a b x hx
      have e2 := g1.1 a b x hx
      show max _ _ ≤ max _ _ + x
      omega
    · have e1 := l1.2 i hi
      have e2 := g1.2 i hi
      have e3 := g2 _ l1 i hi
      show _ ≤ max _ _ ∧ max _ _ ≤ _
      omega
  refine ⟨(List.range n.sets.length).map (fun i => max (inAt (lowV n.links c) i) (inAt (highV n.links c) i - (inAt (highV n.links c) v - d))), by simp, ⟨fun i hi => ?_, fun j hj => ?_⟩, ?_⟩
  · have hi' : i < n.sets.length := by simpa using hi
    rw [inAt_range hi']
    exact chSol_days hc hq hi'
  · obtain ⟨⟨a1, a2⟩, ⟨b1, b2⟩, _⟩ := hk j hj
    have := feas_holds.1 hq.1 j hj
    unfold Holds
    rw [inAt_range (by omega), inAt_range (by omega)]
    exact this
  · rw [inAt_range hv]
    show max _ _ = d
    omega
theorem pos_day {n : Net} (h : NetOk n) {v : Nat} (hv : v < n.sets.length) {d : Int} : HasDay (posL n v) d ↔ ∃ ds : List Int, ds.length = n.sets.length ∧ Solves n ds ∧ inAt ds v = d := by
  obtain ⟨f1, _⟩ := mem_fromTo (psTo_ok h hv (Nat.le_refl _))
  have hmk := (mkL_ok f1).2 d
  show HasDay (mkL (psTo n v (prodN n.sets))) d ↔ _
  rw [hmk]
  constructor
  · intro hd
    obtain ⟨s, hs, x, y⟩ := hasDay_mem.1 hd
    obtain ⟨k, hk, ho, rfl⟩ := psTo_mem _ hs
    exact between h.2.2.2 (chN_isCh n.sets k hk) ho hv x y
  · rintro ⟨ds, hl, hs, e⟩
    obtain ⟨c, hc, hp⟩ := isCh_of_days n.sets (inAt ds) (fun i hi => hs.1 i (by omega))
    have hcs : ChSol n.links c (inAt ds) := ⟨feas_holds.2 (fun j hj => hs.2 j hj), hp⟩
    have ho : ChOk n.links c := ⟨_, hcs⟩
    have hcl := hc.len
    have hk : LksOk n.links c.length := by rw [hcl]; exact h.2.2.2
    obtain ⟨k, hk2, e2⟩ := isCh_chN hc
    have l2 := (ho.low hk).2 _ hcs v (by omega)
    have g2 := (ho.high hk).2 _ hcs v (by omega)
    refine psTo_day _ ⟨k, hk2, by rw [e2]; exact ho, ?_, ?_⟩
    · rw [e2]; show inAt (lowV n.links c) v ≤ d; omega
    · rw [e2]; show d ≤ inAt (highV n.links c) v; omega
theorem put_solves {n : Net} {v : Nat} (hv : v < n.sets.length) {d : Int} (hd : HasDay (setAt n.sets v) d) {ds : List Int} (hl : ds.length = n.sets.length) : Solves (putDay n v d) ds ↔ Solves n ds ∧ inAt ds v = d := by
  have hs : ∀ i, setAt (putDay n v d).sets i = if i = v then [⟨d, d⟩] else setAt n.sets i := by
    intro i
    show setAt (n.sets.set v [⟨d, d⟩]) i = _
    rw [setAt_put]
    by_cases e : i = v
    · rw [if_pos ⟨e, by omega⟩, if_pos e]
    · rw [if_neg (fun hh => e hh.1), if_neg e]
  constructor
  · intro h
    have h0 := h.1 v (by omega)
    rw [hs, if_pos rfl, oneDay_has] at h0
    refine ⟨⟨fun i hi => ?_, h.2⟩, h0⟩
    have h1 := h.1 i hi
    rw [hs] at h1
    by_cases e : i = v
    · rw [e, h0]; exact hd
    · rw [if_neg e] at h1; exact h1
  · rintro ⟨h, e0⟩
    refine ⟨fun i hi => ?_, h.2⟩
    rw [hs]
    by_cases e : i = v
    · rw [if_pos e, e, oneDay_has]; exact e0
    · rw [if_neg e]; exact h.1 i hi
theorem prodN_set : ∀ {l : List (List Sp)} {v : Nat} (x : Sp), 0 < (setAt l v).length → prodN (l.set v [x]) ≤ prodN l
  | [], _, _, _ => Nat.le_refl _
  | s :: r, 0, x, h => by
    show 1 * prodN r ≤ s.length * prodN r
    exact Nat.mul_le_mul_right _ h
  | s :: r, v + 1, x, h => by
    show s.length * prodN (r.set v [x]) ≤ s.length * prodN r
    exact Nat.mul_le_mul_left _ (prodN_set x h)
/-- the law on possible days -/
theorem pos_fix {n : Net} (h : codeE n true = 0) {v : Nat} (hv : v < n.sets.length) {d : Int} (hd : HasDay (setAt n.sets v) d) :
    NetOk (putDay n v d) ∧ codeE (putDay n v d) true = 0 ∧ (HasDay (posL n v) d ↔ Sol (putDay n v d)) := by
  obtain ⟨h1, _, h3⟩ := codeE_zero h
  have hday : DayOk d := (h1.2.2.1 v hv).d.day hd
  have hok := putDay_ok h1 (v := v) hday
  have h0 : 0 < (setAt n.sets v).length := by obtain ⟨i, hi, _⟩ := hd; omega
  have hp : prodN (putDay n v d).sets ≤ prodN n.sets := prodN_set _ h0
  have hf := few_of h3
  refine ⟨hok, codeE_ok hok (by rw [choN_small (by omega)]; omega), ?_⟩
  have hns : (putDay n v d).sets.length = n.sets.length := by show (n.sets.set _ _).length = _; rw [List.length_set]
  rw [pos_day h1 hv, sol_days (n := putDay n v d) hok.2.2.2]
  constructor
  · rintro ⟨ds, a, b, c⟩
    exact ⟨ds, by rw [hns]; exact a, (put_solves hv hd a).2 ⟨b, c⟩⟩
  · rintro ⟨ds, a, b⟩
    rw [hns] at a
    obtain ⟨x, y⟩ := (put_solves hv hd a).1 b
    exact ⟨ds, a, x, y⟩
theorem daysTo_ge {l : List Sp} (h : SetOk l) : ∀ k, k ≤ l.length → (k : Int) ≤ daysTo l k
  | 0, _ => Int.le_refl _
  | k + 1, hk => by
    have ih := daysTo_ge h k (by omega)
    have h1 := (h.2 k (by omega)).1.2.2
    show ((k + 1 : Nat) : Int) ≤ daysTo l k + ((spAt l k).to - (spAt l k).fr + 1)
    omega
theorem days_zero {l : List Sp} (h : SetOk l) (h0 : days l = 0) : l = [] := by
  have := daysTo_ge h l.length (Nat.le_refl _)
  have h1 : daysTo l l.length = 0 := h0
  exact List.eq_nil_of_length_eq_zero (by omega)
theorem pos_none {n : Net} {v : Nat} (hv : v < n.sets.length) (h0 : setAt n.sets v = []) : posL n v = [] := by
  have e : prodN n.sets = 0 := prodN_zero hv (by rw [h0]; rfl)
  unfold posL
  rw [e]
  rfl
end Go.Proofs.YtfajmlkiidnhlaaGreat
