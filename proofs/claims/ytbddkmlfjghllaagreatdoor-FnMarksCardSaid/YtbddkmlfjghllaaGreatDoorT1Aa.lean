/- Marks, plain: what the reference's sort leaves; what RecordUse, MarksOn and LongestUse return. -/
import Derived.Test.YtbddkmlfjghllaaGreatDoorT1Jd
import Derived.Lib.SlicesCompact
namespace Go.Proofs.YtbddkmlfjghllaaGreatDoor
set_option linter.unusedVariables false
set_option linter.unusedSimpArgs false
open Go.RowKit

/-- the reference puts one mark in: behind those that are smaller; one of the same name and first day is widened -/
def Ins (l : List Nsp) (x : Nsp) (m : List Nsp) : Prop := ∃ p, posM l x p ∧
  ((p < l.length ∧ (nspAt l p).nm = x.nm ∧ (nspAt l p).fr = x.fr ∧ m = l.set p ⟨(nspAt l p).nm, (nspAt l p).fr, max (nspAt l p).to x.to⟩) ∨
   (¬ (p < l.length ∧ (nspAt l p).nm = x.nm ∧ (nspAt l p).fr = x.fr) ∧ m = insP l x p))
/-- what the reference's sort has made of the first k -/
def SortR (l : List Nsp) : Nat → List Nsp → Prop
  | 0, m => m = []
  | k + 1, m => ∃ m', SortR l k m' ∧ Ins m' (nspAt l k) m
theorem Ins.len {l m : List Nsp} {x : Nsp} (h : Ins l x m) : m.length ≤ l.length + 1 := by
  obtain ⟨p, hp, ⟨_, _, _, rfl⟩ | ⟨_, rfl⟩⟩ := h
  · simp
  · rw [insP_len hp.1]; exact Nat.le_refl _
theorem SortR.len {l : List Nsp} : ∀ {k : Nat} {m : List Nsp}, SortR l k m → m.length ≤ k
  | 0, m, h => by have h : m = [] := h; subst h; exact Nat.le_refl _
  | k + 1, m, ⟨m', h1, h2⟩ => by have := SortR.len h1; have := h2.len; omega
theorem Ins.names {l m : List Nsp} {x : Nsp} {P : Nsp → Prop} (hP : ∀ a b : Nsp, a.nm = b.nm → a.fr = b.fr → P a → P b) (h : Ins l x m) (hl : ∀ i, i < l.length → P (nspAt l i)) (hx : P x) : ∀ i, i < m.length → P (nspAt m i) := by
  obtain ⟨p, hp, ⟨h1, h2, h3, rfl⟩ | ⟨_, rfl⟩⟩ := h
  · intro i hi
    have hi : i < l.length := by simpa using hi
    rw [nspAt_set]
    split
    · exact hP (nspAt l p) _ rfl rfl (hl p h1)
    · exact hl i hi
  · intro i hi
    rw [insP_len hp.1] at hi
    rw [nspAt_ins hp.1]
    have := hp.1
    split
    · exact hl i (by omega)
    · split
      · exact hx
      · exact hl (i - 1) (by omega)
theorem SortR.names {l : List Nsp} {P : Nsp → Prop} (hP : ∀ a b : Nsp, a.nm = b.nm → a.fr = b.fr → P a → P b) : ∀ {k : Nat} {m : List Nsp}, SortR l k m → (∀ i, i < k → P (nspAt l i)) → ∀ i, i < m.length → P (nspAt m i)
  | 0, m, h, _ => by have h : m = [] := h; subst h; exact fun i hi => absurd hi (by simp)
  | k + 1, m, ⟨m', h1, h2⟩, hl => h2.names hP (SortR.names hP h1 (fun i hi => hl i (by omega))) (hl k (by omega))
theorem nspAt_take {l : List Nsp} {k i : Nat} (h : i < k) : nspAt (l.take k) i = nspAt l i := by
  unfold nspAt
  rw [List.getD_eq_getElem?_getD, List.getD_eq_getElem?_getD, List.getElem?_take, if_pos h]
theorem take_app {l : List Nsp} {k : Nat} (h : k < l.length) : l.take (k + 1) = l.take k ++ [nspAt l k] := by
  rw [List.take_succ_eq_append_getElem h]
  unfold nspAt
  rw [List.getD_eq_getElem?_getD, List.getElem?_eq_getElem h]
  rfl
theorem ins_last {l m : List Nsp} {x : Nsp} (hx : ∀ i, i < l.length → MkLt (nspAt l i) x) (h : Ins l x m) : m = l ++ [x] := by
  obtain ⟨p, hp, h⟩ := h
  have e := posM_end hx hp
  subst e
  rcases h with ⟨h1, _⟩ | ⟨_, rfl⟩
  · exact absurd h1 (Nat.lt_irrefl _)
  · exact insP_end l x
/-- a list in order stays as it is -/
theorem sort_srt {l : List Nsp} (hs : Srt l) : ∀ {k : Nat} {m : List Nsp}, k ≤ l.length → SortR l k m → m = l.take k
  | 0, m, _, h => by have h : m = [] := h; subst h; simp
  | k + 1, m, hk, ⟨m', h1, h2⟩ => by
    have e := sort_srt hs (by omega) h1
    subst e
    rw [take_app (by omega)]
    refine ins_last (fun i hi => ?_) h2
    have hi : i < k := by rw [List.length_take] at hi; omega
    rw [nspAt_take hi]
    exact hs i k hi (by omega)
theorem sort_srt_all {l m : List Nsp} (hs : Srt l) (h : SortR l l.length m) : m = l := by
  have := sort_srt hs (Nat.le_refl _) h
  rwa [List.take_length] at this
theorem sortR_congr {l l' : List Nsp} : ∀ {k : Nat} {m : List Nsp}, (∀ i, i < k → nspAt l i = nspAt l' i) → SortR l k m → SortR l' k m
  | 0, m, _, h => h
  | k + 1, m, hc, ⟨m', h1, h2⟩ => ⟨m', sortR_congr (fun i hi => hc i (by omega)) h1, by rw [← hc k (by omega)]; exact h2⟩
/-- one more behind a list in order: it is put in -/
theorem sort_new {l m : List Nsp} {x : Nsp} (hs : Srt l) (hf : Fresh l x) (h : SortR (l ++ [x]) (l ++ [x]).length m) : ∃ p, posM l x p ∧ m = insP l x p := by
  have e : (l ++ [x]).length = l.length + 1 := by simp
  rw [e] at h
  obtain ⟨m', h1, h2⟩ := h
  have h1' : SortR l l.length m' := sortR_congr (fun i hi => by rw [nspAt_app (by omega), if_neg (by omega)]) h1
  have em := sort_srt_all hs h1'
  subst em
  rw [nspAt_app (by omega), if_pos rfl] at h2
  obtain ⟨p, hp, h⟩ := h2
  refine ⟨p, hp, ?_⟩
  rcases h with ⟨h1, h2, h3, _⟩ | ⟨_, h⟩
  · exact absurd ⟨h2, h3⟩ (hf p h1)
  · exact h
theorem posM_unique {l : List Nsp} {x : Nsp} {p q : Nat} (hp : posM l x p) (hq : posM l x q) : p = q := by
  obtain ⟨p1, p2, p3⟩ := hp
  obtain ⟨q1, q2, q3⟩ := hq
  rcases Nat.lt_trichotomy p q with h | h | h
  · exact absurd (q2 p h) (p3 (by omega))
  · exact h
  · exact absurd (p2 q h) (q3 (by omega))
noncomputable def posF (x : Nsp) : List Nsp → Nat
  | [] => 0
  | a :: r => bif B (MkLt a x) then posF x r + 1 else 0
theorem posF_posM (x : Nsp) : ∀ l : List Nsp, posM l x (posF x l)
  | [] => ⟨Nat.le_refl _, fun i hi => absurd hi (Nat.not_lt_zero i), fun h => absurd h (by simp [posF])⟩
  | a :: r => by
    obtain ⟨h1, h2, h3⟩ := posF_posM x r
    by_cases h : MkLt a x
    · have e : posF x (a :: r) = posF x r + 1 := by show (bif B (MkLt a x) then _ else _) = _; rw [B_true h]; rfl
      rw [e]
      refine ⟨by simpa using h1, fun i hi => ?_, fun hh => h3 (by simpa using hh)⟩
      match i, hi with
      | 0, _ => exact h
      | i + 1, hi => exact h2 i (by omega)
    · have e : posF x (a :: r) = 0 := by show (bif B (MkLt a x) then _ else _) = _; rw [B_false h]; rfl
      rw [e]
      exact ⟨Nat.zero_le _, fun i hi => absurd hi (by omega), fun _ => h⟩
noncomputable def insF (l : List Nsp) (x : Nsp) : List Nsp := insP l x (posF x l)
theorem insF_eq {l : List Nsp} {x : Nsp} {p : Nat} (h : posM l x p) : insP l x p = insF l x := by
  unfold insF; rw [posM_unique h (posF_posM x l)]
theorem insF_len (l : List Nsp) (x : Nsp) : (insF l x).length = l.length + 1 := insP_len (posF_posM x l).1
theorem insF_srt {l : List Nsp} {x : Nsp} (h : Srt l) (hf : Fresh l x) : Srt (insF l x) := ins_srt h hf (posF_posM x l)
theorem insF_perm (l : List Nsp) (x : Nsp) : (insF l x).Perm (l ++ [x]) := ins_perm
/-- the first place at which a use belongs to a mark, or the length -/
noncomputable def hitF (l : List Nsp) (name : ByteArray) (n away : Int) : Nat → Nat
  | 0 => l.length
  | k + 1 => bif B (Hit l name n away (l.length - (k + 1))) then l.length - (k + 1) else hitF l name n away k
theorem hitF_spec (l : List Nsp) (name : ByteArray) (n away : Int) : ∀ k, k ≤ l.length → (∀ i, i < l.length - k → ¬ Hit l name n away i) →
    hitF l name n away k ≤ l.length ∧ (∀ i, i < hitF l name n away k → ¬ Hit l name n away i) ∧ (hitF l name n away k < l.length → Hit l name n away (hitF l name n away k))
  | 0, _, h => ⟨Nat.le_refl _, fun i hi => h i (by have hi : i < l.length := hi; omega), fun h => absurd h (Nat.lt_irrefl _)⟩
  | k + 1, hk, h => by
    by_cases hh : Hit l name n away (l.length - (k + 1))
    · have e : hitF l name n away (k + 1) = l.length - (k + 1) := by show (bif B _ then _ else _) = _; rw [B_true hh]; rfl
      rw [e]
      exact ⟨by omega, h, fun _ => hh⟩
    · have e : hitF l name n away (k + 1) = hitF l name n away k := by show (bif B _ then _ else _) = _; rw [B_false hh]; rfl
      rw [e]
      refine hitF_spec l name n away k (by omega) (fun i hi => ?_)
      by_cases e : i = l.length - (k + 1)
      · subst e; exact hh
      · exact h i (by omega)
noncomputable def hitI (l : List Nsp) (name : ByteArray) (n away : Int) : Nat := hitF l name n away l.length
theorem hitI_at {l : List Nsp} {name : ByteArray} {n away : Int} {i : Nat} (hi : i < l.length) (h : Hit l name n away i) (hno : ∀ k, k < i → ¬ Hit l name n away k) : hitI l name n away = i := by
  obtain ⟨h1, h2, h3⟩ := hitF_spec l name n away l.length (Nat.le_refl _) (fun i hi => absurd hi (by omega))
  show hitF l name n away l.length = i
  rcases Nat.lt_trichotomy (hitF l name n away l.length) i with t | t | t
  · exact absurd (h3 (by omega)) (hno _ t)
  · exact t
  · exact absurd h (h2 i t)
theorem hitI_no {l : List Nsp} {name : ByteArray} {n away : Int} (hno : ∀ k, k < l.length → ¬ Hit l name n away k) : hitI l name n away = l.length := by
  obtain ⟨h1, h2, h3⟩ := hitF_spec l name n away l.length (Nat.le_refl _) (fun i hi => absurd hi (by omega))
  show hitF l name n away l.length = l.length
  rcases Nat.lt_or_ge (hitF l name n away l.length) l.length with t | t
  · exact absurd (h3 t) (hno _ t)
  · omega
theorem hitI_is (l : List Nsp) (name : ByteArray) (n away : Int) : hitI l name n away ≤ l.length ∧ (∀ i, i < hitI l name n away → ¬ Hit l name n away i) ∧ (hitI l name n away < l.length → Hit l name n away (hitI l name n away)) :=
  hitF_spec l name n away l.length (Nat.le_refl _) (fun i hi => absurd hi (by omega))
def RecArg (name : ByteArray) (n away : Int) : Prop := DayOk n ∧ NameOk name 12 ∧ 0 ≤ away ∧ away ≤ 10000
/-- what RecordUse returns: a code and marks -/
noncomputable def recE (l : List Nsp) (name : ByteArray) (n away : Int) : Int :=
  bif B (MksOk l) then (bif B (RecArg name n away) then (if hitI l name n away < l.length then 0 else if l.length = 40 then 3 else 0) else 2) else 1
noncomputable def recL (l : List Nsp) (name : ByteArray) (n away : Int) : List Nsp :=
  bif B (MksOk l) then (bif B (RecArg name n away) then (if hitI l name n away < l.length then hitM l n (hitI l name n away) else if l.length = 40 then [] else insF l ⟨name, n, n⟩) else []) else []
section
variable {l : List Nsp} {name : ByteArray} {n away : Int}
theorem rec_no (h : ¬ MksOk l) : recE l name n away = 1 ∧ recL l name n away = [] := ⟨by unfold recE; rw [B_false h]; rfl, by unfold recL; rw [B_false h]; rfl⟩
theorem rec_arg (h : MksOk l) (h1 : ¬ RecArg name n away) : recE l name n away = 2 ∧ recL l name n away = [] := ⟨by unfold recE; rw [B_true h, B_false h1]; rfl, by unfold recL; rw [B_true h, B_false h1]; rfl⟩
theorem rec_hit (h : MksOk l) (h1 : RecArg name n away) {i : Nat} (hi : i < l.length) (hh : Hit l name n away i) (hno : ∀ k, k < i → ¬ Hit l name n away k) : recE l name n away = 0 ∧ recL l name n away = hitM l n i := by
  have e := hitI_at hi hh hno
  constructor
  · unfold recE; rw [B_true h, B_true h1, e, if_pos hi]; rfl
  · unfold recL; rw [B_true h, B_true h1, e, if_pos hi]; rfl
theorem rec_full (h : MksOk l) (h1 : RecArg name n away) (hno : ∀ k, k < l.length → ¬ Hit l name n away k) (hf : l.length = 40) : recE l name n away = 3 ∧ recL l name n away = [] := by
  have e := hitI_no hno
  constructor
  · unfold recE; rw [B_true h, B_true h1, e, if_neg (Nat.lt_irrefl _), if_pos hf]; rfl
  · unfold recL; rw [B_true h, B_true h1, e, if_neg (Nat.lt_irrefl _), if_pos hf]; rfl
theorem rec_new (h : MksOk l) (h1 : RecArg name n away) (hno : ∀ k, k < l.length → ¬ Hit l name n away k) (hf : ¬ l.length = 40) : recE l name n away = 0 ∧ recL l name n away = insF l ⟨name, n, n⟩ := by
  have e := hitI_no hno
  constructor
  · unfold recE; rw [B_true h, B_true h1, e, if_neg (Nat.lt_irrefl _), if_neg hf]; rfl
  · unfold recL; rw [B_true h, B_true h1, e, if_neg (Nat.lt_irrefl _), if_neg hf]; rfl
theorem recL_len : (recL l name n away).length ≤ 41 := by
  by_cases h : MksOk l
  · by_cases h1 : RecArg name n away
    · unfold recL
      rw [B_true h, B_true h1]
      show (if _ then _ else _ : List Nsp).length ≤ 41
      have := h.1
      split
      · unfold hitM; simp; omega
      · split
        · simp
        · rw [insF_len]; omega
    · rw [(rec_arg h h1).2]; simp
  · rw [(rec_no h).2]; simp
/-- what is recorded are marks, and the mark is in use on the day -/
theorem rec_ok (h0 : recE l name n away = 0) : MksOk (recL l name n away) ∧ DayOk n ∧ ∃ i, i < (recL l name n away).length ∧ (nspAt (recL l name n away) i).nm = name ∧ (nspAt (recL l name n away) i).fr ≤ n ∧ n ≤ (nspAt (recL l name n away) i).to := by
  by_cases h : MksOk l
  · by_cases h1 : RecArg name n away
    · obtain ⟨g1, g2, g3⟩ := hitI_is l name n away
      by_cases hi : hitI l name n away < l.length
      · have e := (rec_hit h h1 hi (g3 hi) g2).2
        rw [e]
        obtain ⟨k1, k2, k3⟩ := g3 hi
        have hs := hit_srt h h1.2.2.1 hi (g3 hi) g2
        have hlen : (hitM l n (hitI l name n away)).length = l.length := by simp [hitM]
        have hat : nspAt (hitM l n (hitI l name n away)) (hitI l name n away) = ⟨(nspAt l (hitI l name n away)).nm, min (nspAt l (hitI l name n away)).fr n, max (nspAt l (hitI l name n away)).to n⟩ := by
          unfold hitM; rw [nspAt_set, if_pos ⟨rfl, hi⟩]
        refine ⟨⟨by rw [hlen]; exact h.1, srt_mks hs (fun j hj => ?_)⟩, h1.1, hitI l name n away, by rw [hlen]; exact hi, by rw [hat]; exact k1, by rw [hat]; show min _ _ ≤ _; omega, by rw [hat]; show _ ≤ max _ _; omega⟩
        rw [hlen] at hj
        unfold hitM
        rw [nspAt_set]
        split
        · obtain ⟨⟨a1, a2, a3, a4⟩, _⟩ := h.2 (hitI l name n away) hi
          refine ⟨a1, ?_, ?_, ?_⟩
          · show DayOk (min _ _)
            have := h1.1
            unfold DayOk at *
            omega
          · show DayOk (max _ _)
            have := h1.1
            unfold DayOk at *
            omega
          · show min _ _ ≤ max _ _
            omega
        · exact (h.2 j hj).1
      · have e : hitI l name n away = l.length := by omega
        have hno : ∀ k, k < l.length → ¬ Hit l name n away k := fun k hk => g2 k (by omega)
        by_cases hf : l.length = 40
        · rw [(rec_full h h1 hno hf).1] at h0
          exact absurd h0 (by decide)
        · rw [(rec_new h h1 hno hf).2]
          have hfr : Fresh l ⟨name, n, n⟩ := miss_fresh h h1.2.2.1 hno
          have hs := insF_srt (mks_lt h.2 |> fun t => (fun i k hik hk => t k i hik hk : Srt l)) hfr
          have hp := posF_posM ⟨name, n, n⟩ l
          have hx : nspAt (insF l ⟨name, n, n⟩) (posF ⟨name, n, n⟩ l) = ⟨name, n, n⟩ := by
            unfold insF; rw [nspAt_ins hp.1, if_neg (Nat.lt_irrefl _), if_pos rfl]
          have hpl := hp.1
          refine ⟨⟨by rw [insF_len]; have := h.1; omega, srt_mks hs (fun j hj => ?_)⟩, h1.1, posF ⟨name, n, n⟩ l, by rw [insF_len]; omega, by rw [hx], by rw [hx]; exact Int.le_refl _, by rw [hx]; exact Int.le_refl _⟩
          rw [insF_len] at hj
          unfold insF
          rw [nspAt_ins hp.1]
          split
          · exact (h.2 j (by omega)).1
          · split
            · exact ⟨h1.2.1, h1.1, h1.1, Int.le_refl _⟩
            · exact (h.2 (j - 1) (by omega)).1
    · rw [(rec_arg h h1).1] at h0; exact absurd h0 (by decide)
  · rw [(rec_no h).1] at h0; exact absurd h0 (by decide)
end
/-! ### Marks in use on a day -/
def Cov (l : List Nsp) (n : Int) (i : Nat) : Prop := (nspAt l i).fr ≤ n ∧ n ≤ (nspAt l i).to
/-- the names of the first k that are in use on a day, all of them -/
noncomputable def onA (l : List Nsp) (n : Int) : Nat → List ByteArray
  | 0 => []
  | k + 1 => bif B (Cov l n k) then onA l n k ++ [(nspAt l k).nm] else onA l n k
/-- each once -/
noncomputable def onO (l : List Nsp) (n : Int) : Nat → List ByteArray
  | 0 => []
  | k + 1 => bif B (Cov l n k) then (bif B ((nspAt l k).nm ∈ onO l n k) then onO l n k else onO l n k ++ [(nspAt l k).nm]) else onO l n k
section
variable {l : List Nsp} {n : Int} {k : Nat}
theorem onA_no (h : ¬ Cov l n k) : onA l n (k + 1) = onA l n k := by show (bif B _ then _ else _) = _; rw [B_false h]; rfl
theorem onA_yes (h : Cov l n k) : onA l n (k + 1) = onA l n k ++ [(nspAt l k).nm] := by show (bif B _ then _ else _) = _; rw [B_true h]; rfl
theorem onO_no (h : ¬ Cov l n k) : onO l n (k + 1) = onO l n k := by show (bif B _ then _ else _) = _; rw [B_false h]; rfl
theorem onO_yes (h : Cov l n k) (h1 : ¬ (nspAt l k).nm ∈ onO l n k) : onO l n (k + 1) = onO l n k ++ [(nspAt l k).nm] := by show (bif B _ then (bif B _ then _ else _) else _) = _; rw [B_true h, B_false h1]; rfl
theorem onO_had (h : Cov l n k) (h1 : (nspAt l k).nm ∈ onO l n k) : onO l n (k + 1) = onO l n k := by show (bif B _ then (bif B _ then _ else _) else _) = _; rw [B_true h, B_true h1]; rfl
end
theorem onA_len (l : List Nsp) (n : Int) : ∀ k, (onA l n k).length ≤ k
  | 0 => Nat.le_refl _
  | k + 1 => by
    have := onA_len l n k
    by_cases h : Cov l n k
    · rw [onA_yes h]; simp; omega
    · rw [onA_no h]; omega
theorem onO_len (l : List Nsp) (n : Int) : ∀ k, (onO l n k).length ≤ k
  | 0 => Nat.le_refl _
  | k + 1 => by
    have := onO_len l n k
    by_cases h : Cov l n k
    · by_cases h1 : (nspAt l k).nm ∈ onO l n k
      · rw [onO_had h h1]; omega
      · rw [onO_yes h h1]; simp; omega
    · rw [onO_no h]; omega
theorem onO_mem (l : List Nsp) (n : Int) : ∀ k x, x ∈ onO l n k ↔ ∃ i, i < k ∧ Cov l n i ∧ (nspAt l i).nm = x
  | 0, x => ⟨fun h => absurd h (by simp [onO]), fun ⟨i, hi, _⟩ => absurd hi (Nat.not_lt_zero i)⟩
  | k + 1, x => by
    have ih := onO_mem l n k
    have hs : (∃ i, i < k + 1 ∧ Cov l n i ∧ (nspAt l i).nm = x) ↔ (∃ i, i < k ∧ Cov l n i ∧ (nspAt l i).nm = x) ∨ (Cov l n k ∧ (nspAt l k).nm = x) := by
      constructor
      · rintro ⟨i, hi, h⟩
        by_cases e : i = k
        · subst e; exact .inr h
        · exact .inl ⟨i, by omega, h⟩
      · rintro (⟨i, hi, h⟩ | h)
        · exact ⟨i, by omega, h⟩
        · exact ⟨k, by omega, h⟩
    rw [hs]
    by_cases h : Cov l n k
    · by_cases h1 : (nspAt l k).nm ∈ onO l n k
      · rw [onO_had h h1, ih]
        constructor
        · exact .inl
        · rintro (h | ⟨_, rfl⟩)
          · exact h
          · exact (ih _).1 h1
      · rw [onO_yes h h1, List.mem_append, ih]
        constructor
        · rintro (t | t)
          · exact .inl t
          · exact .inr ⟨h, (List.mem_singleton.1 t).symm⟩
        · rintro (t | ⟨_, rfl⟩)
          · exact .inl t
          · exact .inr (by simp)
    · rw [onO_no h, ih]
      exact ⟨.inl, fun t => t.elim id (fun t => absurd t.1 h)⟩
theorem onA_nil (l : List Nsp) (n : Int) : ∀ k, onA l n k = [] → ∀ i, i < k → ¬ Cov l n i
  | 0, _ => fun i hi => absurd hi (Nat.not_lt_zero i)
  | k + 1, h => by
    by_cases hc : Cov l n k
    · rw [onA_yes hc] at h; exact absurd h (by simp)
    · rw [onA_no hc] at h
      intro i hi
      by_cases e : i = k
      · subst e; exact hc
      · exact onA_nil l n k h i (by omega)
theorem onA_last (l : List Nsp) (n : Int) : ∀ k, onA l n k ≠ [] → ∃ j, j < k ∧ Cov l n j ∧ (onA l n k).getLast? = some (nspAt l j).nm ∧ ∀ i, i < k → Cov l n i → i ≤ j
  | 0, h => absurd rfl h
  | k + 1, h => by
    by_cases hc : Cov l n k
    · rw [onA_yes hc]
      exact ⟨k, by omega, hc, by simp, fun i hi _ => by omega⟩
    · rw [onA_no hc] at h ⊢
      obtain ⟨j, h1, h2, h3, h4⟩ := onA_last l n k h
      refine ⟨j, by omega, h2, h3, fun i hi hci => ?_⟩
      by_cases e : i = k
      · subst e; exact absurd hci hc
      · exact h4 i (by omega) hci
/-- in a list in order of its names: a name was met before if and only if it is the last one -/
theorem on_same {l : List Nsp} {n : Int} (hs : ∀ i j, i < j → j < l.length → ¬ sLt (nspAt l j).nm (nspAt l i).nm) {k : Nat} (hk : k < l.length) : (nspAt l k).nm ∈ onO l n k ↔ (onA l n k).getLast? = some (nspAt l k).nm := by
  rw [onO_mem]
  constructor
  · rintro ⟨i, hi, hc, e⟩
    have hne : onA l n k ≠ [] := fun h => onA_nil l n k h i hi hc
    obtain ⟨j, h1, h2, h3, h4⟩ := onA_last l n k hne
    rw [h3]
    congr 1
    have hij := h4 i hi hc
    by_cases e2 : i = j
    · subst e2; exact e
    · refine sLt_tri (fun h => ?_) (hs j k h1 hk)
      rw [← e] at h
      exact hs i j (by omega) (by omega) h
  · intro h
    have hne : onA l n k ≠ [] := fun hh => by rw [hh] at h; cases h
    obtain ⟨j, h1, h2, h3, _⟩ := onA_last l n k hne
    rw [h3] at h
    injection h with h
    exact ⟨j, h1, h2, h⟩
theorem compact_snoc (zs : List (List UInt8)) (x : List UInt8) : Lib.compact (zs ++ [x]) = Lib.compact zs ++ (if zs.getLast? = some x then [] else [x]) := by
  have hl : (zs ++ [x]).length = zs.length + 1 := by simp
  have hg : ∀ j, j < zs.length → (zs ++ [x]).toArray[j]! = zs.toArray[j]! := fun j hj => by
    rw [getElem!_pos _ j (by simp; omega), getElem!_pos _ j (by simpa using hj)]
    simp [List.getElem_append_left hj]
  have hx : (zs ++ [x]).toArray[zs.length]! = x := by
    rw [getElem!_pos _ zs.length (by simp)]
    simp
  unfold Lib.compact
  rw [hl, Lib.compactUpTo_succ, hx]
  congr 1
  · unfold Lib.compactUpTo
    have e1 : (List.range zs.length).filter (Lib.keeps (zs ++ [x]).toArray) = (List.range zs.length).filter (Lib.keeps zs.toArray) := by
      refine List.filter_congr (fun j hj => ?_)
      have hj := List.mem_range.1 hj
      unfold Lib.keeps
      rw [hg j hj, hg (j - 1) (by omega)]
    rw [e1]
    refine List.map_congr_left (fun j hj => ?_)
    exact hg j (List.mem_range.1 (List.mem_filter.1 hj).1)
  · rcases List.eq_nil_or_concat zs with rfl | ⟨r, y, ez⟩
    · simp [Lib.keeps]
    rw [List.concat_eq_append] at ez
    subst ez
    · have h1 : (r ++ [y] ++ [x]).toArray[(r ++ [y]).length - 1]! = y := by
        rw [hg ((r ++ [y]).length - 1) (by simp), getElem!_pos _ ((r ++ [y]).length - 1) (by simp)]
        simp
      unfold Lib.keeps
      rw [hx, h1, List.getLast?_append]
      by_cases e : y = x
      · subst e; simp
      · have e2 : ¬ x = y := fun h => e h.symm
        simp [e, e2]
theorem on_compact {l : List Nsp} {n : Int} (hs : ∀ i j, i < j → j < l.length → ¬ sLt (nspAt l j).nm (nspAt l i).nm) : ∀ k, k ≤ l.length → Lib.compact ((onA l n k).map (fun s => s.data.toList)) = (onO l n k).map (fun s => s.data.toList)
  | 0, _ => rfl
  | k + 1, hk => by
    have ih := on_compact hs (n := n) k (by omega)
    by_cases hc : Cov l n k
    · have hi := on_same hs (n := n) (show k < l.length by omega)
      have hinj : ((onA l n k).map (fun s : ByteArray => s.data.toList)).getLast? = some (nspAt l k).nm.data.toList ↔ (onA l n k).getLast? = some (nspAt l k).nm := by
        rw [List.getLast?_map]
        cases (onA l n k).getLast? with
        | none => simp
        | some y =>
          simp only [Option.map_some, Option.some.injEq]
          exact ⟨fun h => bytes_ext h, fun h => by rw [h]⟩
      rw [onA_yes hc, List.map_append, List.map_singleton, compact_snoc, ih]
      by_cases h1 : (nspAt l k).nm ∈ onO l n k
      · rw [onO_had hc h1, if_pos (hinj.2 (hi.1 h1)), List.append_nil]
      · rw [onO_yes hc h1, if_neg (fun h => h1 (hi.2 (hinj.1 h))), List.map_append, List.map_singleton]
    · rw [onA_no hc, onO_no hc]
      exact ih
theorem mks_names {l : List Nsp} (h : MksOk l) : ∀ i j, i < j → j < l.length → ¬ sLt (nspAt l j).nm (nspAt l i).nm := fun i j hij hj hh => by
  rcases mks_lt h.2 j i hij hj with t | ⟨t, _⟩
  · exact sLt_asym t hh
  · rw [t] at hh; exact sLt_irr _ hh
/-- what MarksOn returns -/
noncomputable def mkoE (l : List Nsp) (n : Int) : Int := bif B (MksOk l) then (bif B (DayOk n) then 0 else 2) else 1
noncomputable def mkoL (l : List Nsp) (n : Int) : List ByteArray := bif B (MksOk l) then (bif B (DayOk n) then onO l n l.length else []) else []
section
variable {l : List Nsp} {n : Int}
theorem mko_no (h : ¬ MksOk l) : mkoE l n = 1 ∧ mkoL l n = [] := ⟨by unfold mkoE; rw [B_false h]; rfl, by unfold mkoL; rw [B_false h]; rfl⟩
theorem mko_day (h : MksOk l) (h1 : ¬ DayOk n) : mkoE l n = 2 ∧ mkoL l n = [] := ⟨by unfold mkoE; rw [B_true h, B_false h1]; rfl, by unfold mkoL; rw [B_true h, B_false h1]; rfl⟩
theorem mko_ok (h : MksOk l) (h1 : DayOk n) : mkoE l n = 0 ∧ mkoL l n = onO l n l.length := ⟨by unfold mkoE; rw [B_true h, B_true h1]; rfl, by unfold mkoL; rw [B_true h, B_true h1]; rfl⟩
theorem mkoL_len : (mkoL l n).length ≤ 40 := by
  by_cases h : MksOk l
  · by_cases h1 : DayOk n
    · rw [(mko_ok h h1).2]; have := onO_len l n l.length; have := h.1; omega
    · rw [(mko_day h h1).2]; simp
  · rw [(mko_no h).2]; simp
/-- each name that is told has the day among its days -/
theorem mko_in (h0 : mkoE l n = 0) {x : ByteArray} (hx : x ∈ mkoL l n) : MksOk l ∧ DayOk n ∧ ∃ i, i < l.length ∧ (nspAt l i).nm = x ∧ (nspAt l i).fr ≤ n ∧ n ≤ (nspAt l i).to := by
  by_cases h : MksOk l
  · by_cases h1 : DayOk n
    · rw [(mko_ok h h1).2] at hx
      obtain ⟨i, hi, hc, e⟩ := (onO_mem l n l.length x).1 hx
      exact ⟨h, h1, i, hi, e, hc.1, hc.2⟩
    · rw [(mko_day h h1).1] at h0; exact absurd h0 (by decide)
  · rw [(mko_no h).1] at h0; exact absurd h0 (by decide)
end
/-! ### The longest use -/
def Longer (l : List Nsp) (i j : Nat) : Prop := (nspAt l j).to - (nspAt l j).fr < (nspAt l i).to - (nspAt l i).fr
noncomputable def bestI (l : List Nsp) : Nat → Nat
  | 0 => 0
  | k + 1 => bif B (Longer l k (bestI l k)) then k else bestI l k
theorem bestI_yes {l : List Nsp} {k : Nat} (h : Longer l k (bestI l k)) : bestI l (k + 1) = k := by show (bif B _ then _ else _) = _; rw [B_true h]; rfl
theorem bestI_no {l : List Nsp} {k : Nat} (h : ¬ Longer l k (bestI l k)) : bestI l (k + 1) = bestI l k := by show (bif B _ then _ else _) = _; rw [B_false h]; rfl
theorem bestI_lt (l : List Nsp) : ∀ k, bestI l k < k ∨ bestI l k = 0
  | 0 => .inr rfl
  | k + 1 => by
    by_cases h : Longer l k (bestI l k)
    · rw [bestI_yes h]; exact .inl (by omega)
    · rw [bestI_no h]; rcases bestI_lt l k with h | h
      · exact .inl (by omega)
      · exact .inr h
theorem bestI_max (l : List Nsp) : ∀ k i, i < k → ¬ Longer l i (bestI l k)
  | 0, i, hi => absurd hi (Nat.not_lt_zero i)
  | k + 1, i, hi => by
    by_cases h : Longer l k (bestI l k)
    · rw [bestI_yes h]
      by_cases e : i = k
      · subst e; unfold Longer; omega
      · have := bestI_max l k i (by omega)
        unfold Longer at *
        omega
    · rw [bestI_no h]
      by_cases e : i = k
      · subst e; exact h
      · exact bestI_max l k i (by omega)
noncomputable def lngE (l : List Nsp) : Int := bif B (MksOk l) then (if l.length = 0 then 4 else 0) else 1
noncomputable def lngV (l : List Nsp) : Int := bif B (MksOk l) then (if l.length = 0 then 0 else (bestI l l.length : Int)) else 0
theorem lng_no {l : List Nsp} (h : ¬ MksOk l) : lngE l = 1 ∧ lngV l = 0 := ⟨by unfold lngE; rw [B_false h]; rfl, by unfold lngV; rw [B_false h]; rfl⟩
theorem lng_nil {l : List Nsp} (h : MksOk l) (h0 : l.length = 0) : lngE l = 4 ∧ lngV l = 0 := ⟨by unfold lngE; rw [B_true h, if_pos h0]; rfl, by unfold lngV; rw [B_true h, if_pos h0]; rfl⟩
theorem lng_ok {l : List Nsp} (h : MksOk l) (h0 : ¬ l.length = 0) : lngE l = 0 ∧ lngV l = (bestI l l.length : Int) := ⟨by unfold lngE; rw [B_true h, if_neg h0]; rfl, by unfold lngV; rw [B_true h, if_neg h0]; rfl⟩
end Go.Proofs.YtbddkmlfjghllaaGreatDoor
