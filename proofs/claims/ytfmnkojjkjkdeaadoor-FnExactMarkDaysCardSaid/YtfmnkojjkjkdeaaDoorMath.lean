/- Plain data: what the network functions come to. No program in sight. -/
import Derived.Test.YtfmnkojjkjkdeaaDoorLib
namespace Go.Proofs.YtfmnkojjkjkdeaaDoor
set_option linter.unusedVariables false
set_option linter.unusedSimpArgs false
open Go.RowKit

/-! ### counts of days -/
def daysTo (l : List Sp) : Nat → Int
  | 0 => 0
  | k + 1 => daysTo l k + ((spAt l k).to - (spAt l k).fr + 1)
def days (l : List Sp) : Int := daysTo l l.length
theorem daysTo_bd {l : List Sp} (h : SetOk l) : ∀ k, k ≤ l.length → 0 ≤ daysTo l k ∧ daysTo l k ≤ k * 730500
  | 0, _ => by simp [daysTo]
  | k + 1, hk => by
    have h1 := daysTo_bd h k (by omega)
    have h2 := (h.2 k (by omega)).1
    obtain ⟨⟨a, b⟩, ⟨c, d⟩, e⟩ := h2
    simp only [daysTo]
    omega
def netDaysTo (l : List (List Sp)) : Nat → Int
  | 0 => 0
  | k + 1 => netDaysTo l k + days (setAt l k)
def netDays (l : List (List Sp)) : Int := netDaysTo l l.length
theorem days_bd {l : List Sp} (h : SetOk l) : 0 ≤ days l ∧ days l ≤ 219150000 := by
  have h1 := daysTo_bd h l.length (Nat.le_refl _)
  have h2 := h.1
  unfold days
  omega
theorem netDaysTo_bd {n : Net} (h : NetOk n) : ∀ k, k ≤ n.sets.length → 0 ≤ netDaysTo n.sets k ∧ netDaysTo n.sets k ≤ k * 219150000
  | 0, _ => by simp [netDaysTo]
  | k + 1, hk => by
    have h1 := netDaysTo_bd h k (by omega)
    have h2 := days_bd (h.2.2.1 k (by omega))
    simp only [netDaysTo]
    omega
theorem netDays_bd {n : Net} (h : NetOk n) : 0 ≤ netDays n.sets ∧ netDays n.sets ≤ 1753200000 := by
  have h1 := netDaysTo_bd h n.sets.length (Nat.le_refl _)
  have h2 := h.1
  unfold netDays
  omega

/-! ### the number of choices -/
def prodTo (m : Int) (l : List (List Sp)) : Nat → Int
  | 0 => 1
  | k + 1 => min (m + 1) (prodTo m l k * ((setAt l k).length : Int))
theorem prodTo_bd {m : Int} (hm : 0 ≤ m) {l : List (List Sp)} : ∀ k, (∀ i, i < k → (setAt l i).length ≠ 0) → 1 ≤ prodTo m l k ∧ prodTo m l k ≤ m + 1
  | 0, _ => by simp [prodTo]; omega
  | k + 1, h => by
    have h1 := prodTo_bd hm k (fun i hi => h i (by omega))
    have h2 := h k (by omega)
    have h3 : 1 ≤ ((setAt l k).length : Int) := by omega
    have h4 : 1 ≤ prodTo m l k * ((setAt l k).length : Int) := by
      have := Int.mul_le_mul h1.1 h3 (by omega) (by omega)
      omega
    simp only [prodTo]
    omega
/-- 0 if a set is empty; else the product, cut at m + 1 -/
noncomputable def choN (m : Int) (l : List (List Sp)) : Int := bif B (∃ i, i < l.length ∧ (setAt l i).length = 0) then 0 else prodTo m l l.length
theorem choN_zero {m : Int} {l : List (List Sp)} {j : Nat} (hj : j < l.length) (h : (setAt l j).length = 0) : choN m l = 0 := by
  unfold choN
  rw [B_true ⟨j, hj, h⟩]
  rfl
theorem choN_prod {m : Int} {l : List (List Sp)} (h : ∀ i, i < l.length → (setAt l i).length ≠ 0) : choN m l = prodTo m l l.length := by
  unfold choN
  rw [B_false (fun ⟨i, hi, h0⟩ => h i hi h0)]
  rfl
theorem choN_bd (l : List (List Sp)) : 0 ≤ choN 4096 l ∧ choN 4096 l ≤ 4097 := by
  by_cases h : ∃ i, i < l.length ∧ (setAt l i).length = 0
  · obtain ⟨i, hi, h0⟩ := h
    rw [choN_zero hi h0]
    omega
  · have h' : ∀ i, i < l.length → (setAt l i).length ≠ 0 := fun i hi h0 => h ⟨i, hi, h0⟩
    rw [choN_prod h']
    have := prodTo_bd (m := 4096) (by omega) l.length h'
    omega

/-! ### what the exported functions return -/
noncomputable def netE (n : Net) : Int := bif B (NetOk n) then 0 else 1
theorem netE_ok {n : Net} (h : NetOk n) : netE n = 0 := by unfold netE; rw [B_true h]; rfl
theorem netE_no {n : Net} (h : ¬ NetOk n) : netE n = 1 := by unfold netE; rw [B_false h]; rfl
noncomputable def stmV (n : Net) : Int := bif B (NetOk n) then (n.sets.length : Int) + n.links.length else 0
theorem stmV_ok {n : Net} (h : NetOk n) : stmV n = (n.sets.length : Int) + n.links.length := by unfold stmV; rw [B_true h]; rfl
theorem stmV_no {n : Net} (h : ¬ NetOk n) : stmV n = 0 := by unfold stmV; rw [B_false h]; rfl
noncomputable def lostE (n m : Net) : Int := bif B (NetOk n ∧ NetOk m) then (bif B (n.sets.length = m.sets.length) then 0 else 2) else 1
noncomputable def lostV (n m : Net) : Int := bif B (NetOk n ∧ NetOk m ∧ n.sets.length = m.sets.length) then netDays n.sets - netDays m.sets else 0
theorem lost_bad {n m : Net} (h : ¬ (NetOk n ∧ NetOk m)) : lostE n m = 1 ∧ lostV n m = 0 := by
  unfold lostE lostV
  rw [B_false h, B_false (show ¬ (NetOk n ∧ NetOk m ∧ n.sets.length = m.sets.length) from fun hh => h ⟨hh.1, hh.2.1⟩)]
  exact ⟨rfl, rfl⟩
theorem lost_len {n m : Net} (h : NetOk n ∧ NetOk m) (hl : ¬ n.sets.length = m.sets.length) : lostE n m = 2 ∧ lostV n m = 0 := by
  unfold lostE lostV
  rw [B_true h, B_false hl, B_false (show ¬ (NetOk n ∧ NetOk m ∧ n.sets.length = m.sets.length) from fun hh => hl hh.2.2)]
  exact ⟨rfl, rfl⟩
theorem lost_ok {n m : Net} (h : NetOk n ∧ NetOk m) (hl : n.sets.length = m.sets.length) : lostE n m = 0 ∧ lostV n m = netDays n.sets - netDays m.sets := by
  unfold lostE lostV
  rw [B_true h, B_true hl, B_true ⟨h.1, h.2, hl⟩]
  exact ⟨rfl, rfl⟩
noncomputable def chE (n : Net) : Int := bif B (NetOk n) then (bif B (choN 4096 n.sets ≤ 4096) then 0 else 3) else 1
noncomputable def chV (n : Net) : Int := bif B (NetOk n ∧ choN 4096 n.sets ≤ 4096) then choN 4096 n.sets else 0
theorem ch_bad {n : Net} (h : ¬ NetOk n) : chE n = 1 ∧ chV n = 0 := by
  unfold chE chV
  rw [B_false h, B_false (show ¬ (NetOk n ∧ choN 4096 n.sets ≤ 4096) from fun hh => h hh.1)]
  exact ⟨rfl, rfl⟩
theorem ch_big {n : Net} (h : NetOk n) (hl : ¬ choN 4096 n.sets ≤ 4096) : chE n = 3 ∧ chV n = 0 := by
  unfold chE chV
  rw [B_true h, B_false hl, B_false (show ¬ (NetOk n ∧ choN 4096 n.sets ≤ 4096) from fun hh => hl hh.2)]
  exact ⟨rfl, rfl⟩
theorem ch_ok {n : Net} (h : NetOk n) (hl : choN 4096 n.sets ≤ 4096) : chE n = 0 ∧ chV n = choN 4096 n.sets := by
  unfold chE chV
  rw [B_true h, B_true hl, B_true ⟨h, hl⟩]
  exact ⟨rfl, rfl⟩

/-! ### days for a network -/
def HasDay (l : List Sp) (d : Int) : Prop := ∃ i, i < l.length ∧ (spAt l i).fr ≤ d ∧ d ≤ (spAt l i).to
def DaysOk (l : List Int) : Prop := ∀ i, i < l.length → DayOk (inAt l i)
def Holds (l : Lk) (ds : List Int) : Prop := l.le ≤ inAt ds l.af.toNat - inAt ds l.be.toNat ∧ inAt ds l.af.toNat - inAt ds l.be.toNat ≤ l.mo
def InSets (n : Net) (ds : List Int) : Prop := ∀ i, i < ds.length → HasDay (setAt n.sets i) (inAt ds i)
def NoneBroken (n : Net) (ds : List Int) : Prop := ∀ i, i < n.links.length → Holds (lkAt n.links i) ds
def Solves (n : Net) (ds : List Int) : Prop := InSets n ds ∧ NoneBroken n ds
/-- the code of a network and days -/
noncomputable def dayE (n : Net) (ds : List Int) : Int := bif B (NetOk n) then (bif B (ds.length = n.sets.length ∧ DaysOk ds) then 0 else 2) else 1
theorem dayE_net {n : Net} {ds : List Int} (h : ¬ NetOk n) : dayE n ds = 1 := by unfold dayE; rw [B_false h]; rfl
theorem dayE_bad {n : Net} {ds : List Int} (h : NetOk n) (h2 : ¬ (ds.length = n.sets.length ∧ DaysOk ds)) : dayE n ds = 2 := by unfold dayE; rw [B_true h, B_false h2]; rfl
theorem dayE_ok {n : Net} {ds : List Int} (h : NetOk n) (h2 : ds.length = n.sets.length ∧ DaysOk ds) : dayE n ds = 0 := by unfold dayE; rw [B_true h, B_true h2]; rfl
noncomputable def solvB (n : Net) (ds : List Int) : Bool := B (dayE n ds = 0 ∧ Solves n ds)

/-- the indices below k of which p does not hold -/
noncomputable def notTo (p : Nat → Prop) : Nat → List Int
  | 0 => []
  | k + 1 => bif B (p k) then notTo p k else notTo p k ++ [(k : Int)]
theorem notTo_yes {p : Nat → Prop} {k : Nat} (h : p k) : notTo p (k + 1) = notTo p k := by simp only [notTo]; rw [B_true h]; rfl
theorem notTo_no {p : Nat → Prop} {k : Nat} (h : ¬ p k) : notTo p (k + 1) = notTo p k ++ [(k : Int)] := by simp only [notTo]; rw [B_false h]; rfl
theorem notTo_len (p : Nat → Prop) : ∀ k, (notTo p k).length ≤ k
  | 0 => Nat.le_refl _
  | k + 1 => by
    have h1 := notTo_len p k
    by_cases h : p k
    · rw [notTo_yes h]; omega
    · rw [notTo_no h, List.length_append]; simp; omega
theorem notTo_nil {p : Nat → Prop} : ∀ k, (notTo p k).length = 0 ↔ ∀ i, i < k → p i
  | 0 => by simp [notTo]
  | k + 1 => by
    have h1 := notTo_nil (p := p) k
    by_cases h : p k
    · rw [notTo_yes h, h1]
      constructor
      · intro h2 i hi
        by_cases e : i = k
        · rw [e]; exact h
        · exact h2 i (by omega)
      · intro h2 i hi
        exact h2 i (by omega)
    · rw [notTo_no h, List.length_append]
      constructor
      · intro h2; simp at h2
      · intro h2; exact absurd (h2 k (by omega)) h
theorem intCells (l : List Int) : ∀ i, i < l.length * 1 → (l.map (Value.int .i64))[i]? = some (intCell l i) := by
  intro i hi
  have hl : i < l.length := by omega
  unfold intCell inAt
  simp [List.getD, hl]
noncomputable def brokenL (n : Net) (ds : List Int) : List Int := notTo (fun i => Holds (lkAt n.links i) ds) n.links.length
noncomputable def emptyL (n : Net) : List Int := notTo (fun i => (setAt n.sets i).length ≠ 0) n.sets.length
end Go.Proofs.YtfmnkojjkjkdeaaDoor
