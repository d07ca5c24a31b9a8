/- Matrices of numbers in memory: a slice of slices. -/
import Derived.Test.YtmmokjnljaifcaaGreatDoorE1Jd
import Derived.Test.YtmmokjnljaifcaaGreatDoorE1S
import Derived.Test.YtmmokjnljaifcaaGreatDoorE1R
namespace Go.Proofs.YtmmokjnljaifcaaGreatDoor
set_option linter.unusedVariables false
set_option linter.unusedSimpArgs false
open Go.RowKit

/-- a matrix: the outer row in block b, the row i in block gs i -/
structure MatC (w : World) (lo b off n c : Nat) (gs os cs : Nat → Nat) (M : Mat) : Prop where
  nc : n ≤ c
  lob : lo ≤ b
  bw : b < w.heap.size
  cell : ∀ i, i < n → w.cell? ⟨b, off + i, none⟩ = some (.slice (some ⟨gs i, os i, none⟩) n (cs i))
  cap : ∀ i, i < n → n ≤ cs i
  log : ∀ i, i < n → lo ≤ gs i
  gw : ∀ i, i < n → gs i < w.heap.size
  gb : ∀ i, i < n → gs i ≠ b
  at_ : ∀ i j, i < n → j < n → w.cell? ⟨gs i, os i + j, none⟩ = some (.int .i64 (M i j))
  fz : ∀ i j, i < n → j < n → w.frozen? ⟨gs i, os i + j, none⟩ = false
  dis : ∀ i k, i < n → k < n → i ≠ k → gs i ≠ gs k
theorem MatC.ext {w w' : World} {lo b off n c : Nat} {gs os cs : Nat → Nat} {M : Mat} (h : MatC w lo b off n c gs os cs M) (hx : Ext w w') : MatC w' lo b off n c gs os cs M :=
  ⟨h.nc, h.lob, Nat.lt_of_lt_of_le h.bw hx.size, fun i hi => (hx.cell (p := ⟨b, off + i, none⟩) h.bw).trans (h.cell i hi), h.cap, h.log, fun i hi => Nat.lt_of_lt_of_le (h.gw i hi) hx.size, h.gb,
   fun i j hi hj => (hx.cell (p := ⟨gs i, os i + j, none⟩) (h.gw i hi)).trans (h.at_ i j hi hj), fun i j hi hj => (hx.frozen (p := ⟨gs i, os i + j, none⟩) (h.gw i hi)).trans (h.fz i j hi hj), h.dis⟩
theorem MatC.set {w : World} {lo b off n c : Nat} {gs os cs : Nat → Nat} {M : Mat} (h : MatC w lo b off n c gs os cs M) {i j : Nat} (hi : i < n) (hj : j < n) (x : Int) : MatC (w.setCell ⟨gs i, os i + j, none⟩ (.int .i64 x)) lo b off n c gs os cs (set2 M i j x) := by
  have hsz : (w.setCell ⟨gs i, os i + j, none⟩ (.int .i64 x)).heap.size = w.heap.size := by simp [World.setCell]
  refine ⟨h.nc, h.lob, by rw [hsz]; exact h.bw, fun a ha => ?_, h.cap, h.log, fun a ha => by rw [hsz]; exact h.gw a ha, h.gb, fun a d ha hd => ?_, fun a d ha hd => (World.frozen?_setCell w _ _ _).trans (h.fz a d ha hd), h.dis⟩
  · exact (World.cell?_setCell_other w ⟨gs i, os i + j, none⟩ ⟨b, off + a, none⟩ _ (fun e => by injection e with e _; exact h.gb i hi e)).trans (h.cell a ha)
  · by_cases e : a = i ∧ d = j
    · obtain ⟨rfl, rfl⟩ := e
      rw [set2_at]
      exact World.cell?_setCell_same w ⟨gs a, os a + d, none⟩ _ (h.at_ a d ha hd)
    · rw [set2_ne e]
      refine (World.cell?_setCell_other w ⟨gs i, os i + j, none⟩ ⟨gs a, os a + d, none⟩ _ (fun hh => ?_)).trans (h.at_ a d ha hd)
      injection hh with h1 h2
      by_cases ea : a = i
      · subst ea
        exact e ⟨rfl, by omega⟩
      · exact h.dis a i ha hi ea h1.symm
theorem MatC.congr {w : World} {lo b off n c : Nat} {gs os cs : Nat → Nat} {M M' : Mat} (h : MatC w lo b off n c gs os cs M) (he : ∀ i j, i < n → j < n → M i j = M' i j) : MatC w lo b off n c gs os cs M' :=
  ⟨h.nc, h.lob, h.bw, h.cell, h.cap, h.log, h.gw, h.gb, fun i j hi hj => by rw [← he i j hi hj]; exact h.at_ i j hi hj, h.fz, h.dis⟩

/-- rows under way: the outer row is u, j rows are laid -/
structure MatG (w : World) (T : TypeId) (lo : Nat) (u : Value) (n j : Nat) (gs os cs : Nat → Nat) (M : Mat) : Prop where
  row : w.ownsRow lo T 1 u j (cellsOf (j * 1) (fun i => .slice (some ⟨gs i, os i, none⟩) n (cs i)))
  cap : ∀ i, i < j → n ≤ cs i
  log : ∀ i, i < j → lo ≤ gs i
  gw : ∀ i, i < j → gs i < w.heap.size
  gu : ∀ i, i < j → u.ownBlock ≠ some (gs i)
  at_ : ∀ i k, i < j → k < n → w.cell? ⟨gs i, os i + k, none⟩ = some (.int .i64 (M i k))
  fz : ∀ i k, i < j → k < n → w.frozen? ⟨gs i, os i + k, none⟩ = false
  dis : ∀ i k, i < j → k < j → i ≠ k → gs i ≠ gs k
theorem MatG.start {w : World} {T : TypeId} {lo n : Nat} {u : Value} {M : Mat} (h : w.ownsRow lo T 1 u 0 []) : MatG w T lo u n 0 (fun _ => 0) (fun _ => 0) (fun _ => 0) M :=
  ⟨by simpa [cellsOf] using h, fun i hi => absurd hi (by omega), fun i hi => absurd hi (by omega), fun i hi => absurd hi (by omega), fun i hi => absurd hi (by omega), fun i k hi => absurd hi (by omega), fun i k hi => absurd hi (by omega), fun i k hi => absurd hi (by omega)⟩
theorem MatG.ext {w w' : World} {T : TypeId} {lo n j : Nat} {u : Value} {gs os cs : Nat → Nat} {M : Mat} (h : MatG w T lo u n j gs os cs M) (hx : Ext w w') : MatG w' T lo u n j gs os cs M :=
  ⟨row_ext h.row hx, h.cap, h.log, fun i hi => Nat.lt_of_lt_of_le (h.gw i hi) hx.size, h.gu, fun i k hi hk => (hx.cell (p := ⟨gs i, os i + k, none⟩) (h.gw i hi)).trans (h.at_ i k hi hk), fun i k hi hk => (hx.frozen (p := ⟨gs i, os i + k, none⟩) (h.gw i hi)).trans (h.fz i k hi hk), h.dis⟩
theorem MatG.done {w : World} {T : TypeId} {lo n : Nat} {u : Value} {gs os cs : Nat → Nat} {M : Mat} (h : MatG w T lo u n n gs os cs M) (hn : 0 < n) : ∃ b off c, u = .slice (some ⟨b, off, none⟩) n c ∧ MatC w lo b off n c gs os cs M := by
  obtain ⟨g, hg, ho⟩ := Own.of_owned h.row
  obtain ⟨hm, A, c, rfl, hc, hr⟩ := ho
  obtain ⟨hb, off, rfl, h3⟩ := hr hn
  obtain ⟨hg1, hg2⟩ := hg hn
  refine ⟨g, off, c, rfl, hc, hg2, hb, fun i hi => (h3 i (by omega)).1, h.cap, h.log, h.gw, fun i hi e => ?_, h.at_, h.fz, h.dis⟩
  exact h.gu i hi (by rw [hg1, e])
/-- one more row: 'v' lies in a block of its own, made after the outer row -/
theorem MatG.push {w w' : World} {T : TypeId} {lo n j : Nat} {u u' : Value} {gs os cs : Nat → Nat} {M : Mat} (h : MatG w T lo u n j gs os cs M) {g o c0 : Nat}
    (hgw : g < w.heap.size) (hgl : lo ≤ g) (hgu : u.ownBlock ≠ some g) (hgd : ∀ i, i < j → gs i ≠ g) (hc : n ≤ c0)
    (hat : ∀ k, k < n → w.cell? ⟨g, o + k, none⟩ = some (.int .i64 (M j k)) ∧ w.frozen? ⟨g, o + k, none⟩ = false)
    (hp : Put lo w u w' u') (hr : w'.ownsRow lo T 1 u' (j + 1) (cellsOf (j * 1) (fun i => .slice (some ⟨gs i, os i, none⟩) n (cs i)) ++ cellsOf (1 * 1) (fun _ => .slice (some ⟨g, o, none⟩) n c0))) :
    MatG w' T lo u' n (j + 1) (fun i => if i = j then g else gs i) (fun i => if i = j then o else os i) (fun i => if i = j then c0 else cs i) M := by
  have hsz := hp.size
  have keep : ∀ (k : Nat), k < w.heap.size → u.ownBlock ≠ some k → (∀ x, w'.cell? ⟨k, x, none⟩ = w.cell? ⟨k, x, none⟩) ∧ u'.ownBlock ≠ some k := fun k hk hu => by
    refine ⟨fun x => hp.1.cell (p := ⟨k, x, none⟩) hk (fun hh => hu hh.2.2), fun e => ?_⟩
    rcases hp.2 k e with ⟨_, _, e2⟩ | h2
    · exact hu e2
    · omega
  have keepF : ∀ (k : Nat), k < w.heap.size → u.ownBlock ≠ some k → ∀ x, w'.frozen? ⟨k, x, none⟩ = w.frozen? ⟨k, x, none⟩ := fun k hk hu x => hp.1.frozen (p := ⟨k, x, none⟩) hk (fun hh => hu hh.2.2)
  refine ⟨?_, fun i hi => ?_, fun i hi => ?_, fun i hi => ?_, fun i hi => ?_, fun i k hi hk => ?_, fun i k hi hk => ?_, fun i k hi hk hne => ?_⟩
  · rw [cellsOf_append, show j * 1 + 1 * 1 = (j + 1) * 1 by omega] at hr
    have e : cellsOf ((j + 1) * 1) (fun i => if i < j * 1 then (fun i => Value.slice (some ⟨gs i, os i, none⟩) n (cs i)) i else Value.slice (some ⟨g, o, none⟩) n c0) = cellsOf ((j + 1) * 1) (fun i => Value.slice (some ⟨if i = j then g else gs i, if i = j then o else os i, none⟩) n (if i = j then c0 else cs i)) := cellsOf_congr (fun i hi => by
      by_cases e : i = j
      · rw [if_neg (by omega), if_pos e, if_pos e, if_pos e]
      · rw [if_pos (by omega), if_neg e, if_neg e, if_neg e])
    rw [e] at hr
    exact hr
  · split
    · exact hc
    · exact h.cap i (by omega)
  · split
    · exact hgl
    · exact h.log i (by omega)
  · split
    · omega
    · have := h.gw i (by omega); omega
  · split
    · exact (keep g hgw hgu).2
    · exact (keep _ (h.gw i (by omega)) (h.gu i (by omega))).2
  · by_cases e : i = j
    · simp only [if_pos e]
      rw [(keep g hgw hgu).1, e]
      exact (hat k hk).1
    · simp only [if_neg e]
      rw [(keep _ (h.gw i (by omega)) (h.gu i (by omega))).1]
      exact h.at_ i k (by omega) hk
  · by_cases e : i = j
    · simp only [if_pos e]
      rw [keepF g hgw hgu]
      exact (hat k hk).2
    · simp only [if_neg e]
      rw [keepF _ (h.gw i (by omega)) (h.gu i (by omega))]
      exact h.fz i k (by omega) hk
  · by_cases e : i = j
    · rw [if_pos e, if_neg (by omega)]
      exact fun h2 => hgd k (by omega) h2.symm
    · rw [if_neg e]
      by_cases e2 : k = j
      · rw [if_pos e2]; exact hgd i (by omega)
      · rw [if_neg e2]; exact h.dis i k (by omega) (by omega) hne
end Go.Proofs.YtmmokjnljaifcaaGreatDoor
