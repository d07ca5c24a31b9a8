/- Plain: the gaps of a network, and days that break no link. -/
import Derived.Test.YtfajmlkiidnhlaaTg
import Derived.Test.YtfajmlkiidnhlaaZs
namespace Go.Proofs.Ytfajmlkiidnhlaa
set_option linter.unusedVariables false
set_option linter.unusedSimpArgs false

theorem gap_zero {n : Net} {a b : Int} (h : gapE n a b = 0) : NetOk n ∧ GapIn n a ∧ GapIn n b ∧ GapOk n a b := by
  by_cases h1 : NetOk n
  · by_cases h2 : GapIn n a ∧ GapIn n b
    · by_cases h3 : GapOk n a b
      · exact ⟨h1, h2.1, h2.2, h3⟩
      · unfold gapE at h; rw [B_true h1, B_true h2, B_false h3] at h; cases h
    · unfold gapE at h; rw [B_true h1, B_false h2] at h; cases h
  · unfold gapE at h; rw [B_false h1] at h; cases h
theorem gapE_of {n : Net} {a b : Int} (h1 : NetOk n) (h2 : GapIn n a) (h3 : GapIn n b) (h4 : GapOk n a b) : gapE n a b = 0 := by
  unfold gapE; rw [B_true h1, B_true ⟨h2, h3⟩, B_true h4]; rfl
theorem gapPQ {n : Net} {a b : Int} (h : gapE n a b = 0) : gapP n a b = -inAt (gapX n b) a.toNat ∧ gapQ n a b = inAt (gapX n a) b.toNat := by
  unfold gapP gapQ
  rw [B_true h]
  exact ⟨rfl, rfl⟩
theorem gapOk_swap {n : Net} {a b : Int} (h : GapOk n a b) : GapOk n b a := ⟨h.2.1, h.1, h.2.2.2.1, h.2.2.1, by have := h.2.2.2.2; omega⟩
/-- the gap read backwards -/
theorem gap_swap {n : Net} {a b : Int} (h : gapE n a b = 0) : gapE n b a = 0 ∧ gapP n b a = -gapQ n a b ∧ gapQ n b a = -gapP n a b ∧ gapP n a b ≤ gapQ n a b := by
  obtain ⟨h1, h2, h3, h4⟩ := gap_zero h
  have h5 := gapE_of h1 h3 h2 (gapOk_swap h4)
  obtain ⟨p1, q1⟩ := gapPQ h
  obtain ⟨p2, q2⟩ := gapPQ h5
  have := h4.2.2.2.2
  exact ⟨h5, by omega, by omega, by omega⟩
/-- days that break no link, seen from one of them -/
theorem up_days {n : Net} {ds : List Int} (h : NetOk n) (hd : DaysOk ds) (hl : ds.length = n.sets.length) (hb : NoneBroken n ds) {a : Nat} (ha : a < ds.length) :
    UpOk n.links (upStart n.sets.length a) ∧ ∀ i, i < ds.length → inAt ds i - inAt ds a ≤ inAt (gapX n (a : Int)) i := by
  have hp : Feas (LkC n.links) (fun i => inAt ds i - inAt ds a) := feas_holds.2 (fun j hj => by have := hb j hj; unfold Holds at this; omega)
  have hs : ∀ i, i < (upStart n.sets.length a).length → (fun i => inAt ds i - inAt ds a) i ≤ inAt (upStart n.sets.length a) i := by
    intro i hi
    rw [upStart_len] at hi
    have h1 := hd i (by omega)
    have h2 := hd a ha
    unfold DayOk at h1 h2
    unfold upStart
    rw [inAt_set]
    by_cases e : i = a
    · rw [if_pos ⟨e, by simp; omega⟩, e]; show inAt ds a - inAt ds a ≤ 0; omega
    · rw [if_neg (fun hh => e hh.1)]
      have e2 : inAt (List.replicate n.sets.length (730499 : Int)) i = 730499 := by
        unfold inAt
        rw [List.getD_eq_getElem?_getD, List.getElem?_replicate, if_pos hi]
        rfl
      rw [e2]
      show inAt ds i - inAt ds a ≤ 730499
      omega
  have hok : UpOk n.links (upStart n.sets.length a) := ⟨_, hp, hs⟩
  refine ⟨hok, fun i hi => ?_⟩
  have hk : LksOk n.links (upStart n.sets.length a).length := by rw [upStart_len]; exact h.2.2.2
  have := (upV_best hk hok).2.2 _ hp hs i (by rw [upStart_len]; omega)
  unfold gapX
  rw [Int.toNat_natCast]
  exact this
theorem gap_days {n : Net} {ds : List Int} (h : NetOk n) (hd : DaysOk ds) (hl : ds.length = n.sets.length) (hb : NoneBroken n ds) (h2 : 2 ≤ ds.length) :
    gapE n 0 1 = 0 ∧ gapP n 0 1 ≤ inAt ds 1 - inAt ds 0 ∧ inAt ds 1 - inAt ds 0 ≤ gapQ n 0 1 := by
  obtain ⟨u0, x0⟩ := up_days h hd hl hb (a := 0) (by omega)
  obtain ⟨u1, x1⟩ := up_days h hd hl hb (a := 1) (by omega)
  have a0 := x0 0 (by omega)
  have a1 := x0 1 (by omega)
  have b0 := x1 0 (by omega)
  have b1 := x1 1 (by omega)
  have h5 : gapE n 0 1 = 0 := by
    refine gapE_of h ⟨by omega, by omega⟩ ⟨by omega, by omega⟩ ⟨u0, u1, ?_, ?_, ?_⟩
    · show ¬ inAt (gapX n (0 : Int)) 0 < 0
      have : inAt (gapX n ((0 : Nat) : Int)) 0 = inAt (gapX n (0 : Int)) 0 := rfl
      omega
    · show ¬ inAt (gapX n (1 : Int)) 1 < 0
      have : inAt (gapX n ((1 : Nat) : Int)) 1 = inAt (gapX n (1 : Int)) 1 := rfl
      omega
    · show ¬ inAt (gapX n (0 : Int)) 1 < -inAt (gapX n (1 : Int)) 0
      have e1 : inAt (gapX n ((1 : Nat) : Int)) 0 = inAt (gapX n (1 : Int)) 0 := rfl
      have e2 : inAt (gapX n ((0 : Nat) : Int)) 1 = inAt (gapX n (0 : Int)) 1 := rfl
      omega
  obtain ⟨p, q⟩ := gapPQ h5
  have e1 : inAt (gapX n ((1 : Nat) : Int)) 0 = inAt (gapX n (1 : Int)) 0 := rfl
  have e2 : inAt (gapX n ((0 : Nat) : Int)) 1 = inAt (gapX n (0 : Int)) 1 := rfl
  have p' : gapP n 0 1 = -inAt (gapX n 1) 0 := p
  have q' : gapQ n 0 1 = inAt (gapX n 0) 1 := q
  exact ⟨h5, by omega, by omega⟩
/-- the laws' words -/
theorem broken_none {n : Net} {ds : List Int} (h : dayE n ds = 0) : (brokenV n ds).length = 0 ↔ NoneBroken n ds := by
  rw [brokenV_ok h]
  exact notTo_nil _
theorem dayE_zero {n : Net} {ds : List Int} (h : dayE n ds = 0) : NetOk n ∧ ds.length = n.sets.length ∧ DaysOk ds := by
  by_cases h1 : NetOk n
  · by_cases h2 : ds.length = n.sets.length ∧ DaysOk ds
    · exact ⟨h1, h2⟩
    · rw [dayE_bad h1 h2] at h; omega
  · rw [dayE_net h1] at h; omega
end Go.Proofs.Ytfajmlkiidnhlaa
