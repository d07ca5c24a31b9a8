/- Contract: l01Join. -/
import Derived.Test.YtfmnkojjkjkdeaaDoorTd
namespace Go.Proofs.YtfmnkojjkjkdeaaDoor
set_option linter.unusedVariables false
set_option linter.unusedSimpArgs false
open Go.RowKit
attribute [local go_sem] cell_onto

def joinN (f : Nat → ByteArray) (by' : ByteArray) : Nat → ByteArray
  | 0 => ⟨#[]⟩
  | k + 1 => (if k = 0 then joinN f by' k else joinN f by' k ++ by') ++ f k
theorem joinN_first (f : Nat → ByteArray) (b : ByteArray) : joinN f b 1 = joinN f b 0 ++ f 0 := rfl
theorem joinN_next (f : Nat → ByteArray) (b : ByteArray) {k : Nat} (h : 0 < k) : joinN f b (k + 1) = joinN f b k ++ b ++ f k := by
  show (if k = 0 then _ else _) ++ f k = _
  rw [if_neg (by omega)]
theorem joinN_size {f : Nat → ByteArray} {b : ByteArray} {M : Nat} (hb : b.size ≤ M) : ∀ k, (∀ i, i < k → (f i).size ≤ M) → (joinN f b k).size ≤ 2 * M * k
  | 0, _ => Nat.zero_le _
  | k + 1, hf => by
    have ih := joinN_size hb k (fun i hi => hf i (by omega))
    have h1 := hf k (by omega)
    have e : 2 * M * (k + 1) = 2 * M * k + 2 * M := by rw [Nat.mul_add, Nat.mul_one]
    by_cases h : 0 < k
    · rw [joinN_next f b h, ByteArray.size_append, ByteArray.size_append]; omega
    · obtain rfl : k = 0 := by omega
      rw [joinN_first, ByteArray.size_append]; omega
set_option maxRecDepth 100000 in
set_option maxHeartbeats 2000000 in
theorem spec_l01Join (g n c : Nat) (f : Nat → ByteArray) (b : ByteArray) (w : World) (hn : n ≤ 100) (hc : n ≤ c) (hg : g < w.heap.size) (hcell : ∀ i, i < n → w.cell? ⟨g, i, none⟩ = some (.string (f i))) (hb : b.size ≤ 1000000) (hf : ∀ i, i < n → (f i).size ≤ 1000000) :
    Calls Tryd.prog 29 #[.slice (some ⟨g, 0, none⟩) n c, .string b] w (RetX (.string (joinN f b n)) w) := by
  have Hcell := Lib.hid hcell
  have Hf := Lib.hid hf
  clear hcell hf
  go_enter Tryd.func29, Tryd.ntmps29
  go_wp2_with fail
  go_loopg [5, 6] n (fun k out i wr => ∃ j : Nat, j + k = n ∧ i = .int .i64 j ∧ out = .string (joinN f b j) ∧ Ext w wr)
  case atStart => exact ⟨0, by omega, rfl, rfl, (by repeat (first | exact Ext.refl _ | assumption | refine Ext.alloc ?_ _ | refine Ext.drew ?_ | refine Ext.drewN ?_ _ | refine Ext.setCell ?_ (by first | (simp; done) | (simp; omega) | omega) _ | refine Ext.trans ?_ (by assumption)))⟩
  case round =>
    obtain ⟨j, hj, rfl, rfl, hx⟩ := hrel
    have hJ := joinN_size hb j (fun i hi => Hf.out i (by omega))
    have hJ2 : 2 * 1000000 * j ≤ 200000000 := by omega
    by_cases hlt : j < n
    · have h1 : wr.cell? ⟨g, j, none⟩ = some (.string (f j)) := (hx.cell (p := ⟨g, j, none⟩) hg).trans (Hcell.out j hlt)
      have hfj := Hf.out j hlt
      have hgr : g < wr.heap.size := Nat.lt_of_lt_of_le hg hx.size
      have hji : (j : Int) < (n : Int) := by omega
      have hj0 : (0 : Int) ≤ (j : Int) := by omega
      by_cases hz : 0 < j
      · have hzi : (0 : Int) < (j : Int) := by omega
        have e1 := Lib.hid (joinN_next f b hz)
        go_wp2_with fail
        go_roundg (n - (j + 1))
        case measure => omega
        case rel => exact ⟨j + 1, by omega, by go_num, by rw [e1.out], (by repeat (first | exact Ext.refl _ | assumption | refine Ext.alloc ?_ _ | refine Ext.drew ?_ | refine Ext.drewN ?_ _ | refine Ext.setCell ?_ (by first | (simp; done) | (simp; omega) | omega) _ | refine Ext.trans ?_ (by assumption)))⟩
      · obtain rfl : j = 0 := by omega
        have e1 := Lib.hid (joinN_first f b)
        go_wp2_with fail
        go_roundg (n - (0 + 1))
        case measure => omega
        case rel => exact ⟨1, by omega, by go_num, by rw [e1.out], (by repeat (first | exact Ext.refl _ | assumption | refine Ext.alloc ?_ _ | refine Ext.drew ?_ | refine Ext.drewN ?_ _ | refine Ext.setCell ?_ (by first | (simp; done) | (simp; omega) | omega) _ | refine Ext.trans ?_ (by assumption)))⟩
    · obtain rfl : j = n := by omega
      go_wp2_with fail
      go_ret
      exact ⟨rfl, (by repeat (first | exact Ext.refl _ | assumption | refine Ext.alloc ?_ _ | refine Ext.drew ?_ | refine Ext.drewN ?_ _ | refine Ext.setCell ?_ (by first | (simp; done) | (simp; omega) | omega) _ | refine Ext.trans ?_ (by assumption)))⟩
end Go.Proofs.YtfmnkojjkjkdeaaDoor
