/- Texts merged (a claim holds at most sixty files): Td, Th. -/
import Derived.Test.YtbddkmlfjghllaaGreatDoorT1G
import Derived.Lib.ItoaNum
import Derived.Laws.IdiomStrings
import Derived.Laws.BytesString
import Derived.Deep.RegionHeld3
import Derived.Deep.RegionLaw
import Derived.IntWalk
/- Contracts: numbers written out. -/
namespace Go.Proofs.YtbddkmlfjghllaaGreatDoor
set_option linter.unusedVariables false
set_option linter.unusedSimpArgs false
open Go.RowKit
attribute [local go_sem] cell_onto

/-- a digit's letter, and a number written out, as bytes -/
def dgB (d : Nat) : ByteArray := ⟨#[UInt8.ofNat (48 + d)]⟩
def decB (n : Nat) : ByteArray := ⟨(Lib.decDigits n).toArray⟩
theorem decB_one {n : Nat} (h : n < 10) : decB n = dgB n := by unfold decB dgB; rw [Lib.decDigits_one h]
theorem decB_more {n : Nat} (h : ¬ n < 10) : decB n = decB (n / 10) ++ dgB (n % 10) := by
  unfold decB dgB
  rw [Lib.decDigits, dif_neg h]
  apply ByteArray.ext
  simp
theorem dgB_size (d : Nat) : (dgB d).size = 1 := rfl
theorem decB_size (n : Nat) : (decB n).size ≤ n + 1 := by
  induction n using Nat.strongRecOn with
  | ind n ih =>
    by_cases h : n < 10
    · rw [decB_one h, dgB_size]; omega
    · rw [decB_more h, ByteArray.size_append, dgB_size]
      have := ih (n / 10) (by omega)
      omega
theorem digit_nat {d : Nat} (hd : d < 10) : (UInt8.ofNat (48 + d)).toNat = 48 + d := by
  rw [UInt8.toNat_ofNat']
  omega
theorem run_digit {W : World} {b d : Nat} (hd : d < 10) (hx : W.cell? ⟨b, 0, none⟩ = some (.int .u8 (48 + (d : Int)))) :
    (convert 22 9 (.slice (some ⟨b, 0, none⟩) 1 1)).run Tryz.prog W = .ok (.string (dgB d)) W :=
  run_convert_bytes_back (P := Tryz.prog) W 22 9 5 ⟨b, 0, none⟩ 1 [UInt8.ofNat (48 + d)] Tryz.underlying22 Tryz.underlying5 Tryz.underlying9 (fun j hj => by
    have hj' : j < 1 := hj
    obtain rfl : j = 0 := by omega
    show W.cell? ⟨b, 0 + 0, none⟩ = some (.int .u8 (((UInt8.ofNat (48 + d)).toNat : Nat) : Int))
    rw [digit_nat hd]
    exact hx)
set_option maxRecDepth 100000 in
set_option maxHeartbeats 2000000 in
theorem spec_l01Dec (n : Nat) (w : World) (h : n ≤ 9223372036854775807) : Calls Tryz.prog 132 #[.int .i64 (n : Int)] w (RetX (.string (decB n)) w) := by
  induction n using Nat.strongRecOn generalizing w with
  | ind n ih =>
    go_enter Tryz.func132, Tryz.ntmps132
    by_cases h10 : n < 10
    · have h1 : (n : Int) < 10 := by omega
      have h1d : decide ((n : Int) < 10) = true := decide_eq_true h1
      have hw1 : IntKind.i64.wrap (48 + (n : Int)) = 48 + (n : Int) := IntWalk.i64_in _ (by omega)
      have hcv := run_digit h10 (Boxed.new w [.int .u8 (48 + (n : Int))] 5).at0
      rw [decB_one h10]
      go_wp2_with fail
      go_ret
      exact ⟨rfl, (by repeat (first | exact Ext.refl _ | assumption | refine Ext.alloc ?_ _ | refine Ext.drew ?_ | refine Ext.drewN ?_ _ | refine Ext.setCell ?_ (by first | (simp; done) | (simp; omega) | omega) _ | refine Ext.trans ?_ (by assumption)))⟩
    · have h1 : ¬ (n : Int) < 10 := by omega
      have h1d : decide ((n : Int) < 10) = false := decide_eq_false h1
      have Hwq := Lib.hid (show IntKind.i64.wrap ((n : Int) / 10) = ((n / 10 : Nat) : Int) from by rw [IntWalk.i64_in _ (by omega)]; omega)
      have hu : IntKind.u8.wrap (IntKind.i64.wrap (48 + (n : Int).tmod 10)) = 48 + ((n % 10 : Nat) : Int) := by
        rw [Int.tmod_eq_emod_of_nonneg (by omega), IntWalk.i64_in _ (by omega)]
        show (48 + (n : Int) % 10) % 256 = _
        omega
      have Hcv := Lib.hid (show ∀ (W : World) (b : Nat), W.cell? ⟨b, 0, none⟩ = some (.int .u8 (IntKind.u8.wrap (IntKind.i64.wrap (48 + (n : Int).tmod 10)))) → (convert 22 9 (.slice (some ⟨b, 0, none⟩) 1 1)).run Tryz.prog W = .ok (.string (dgB (n % 10))) W from
        fun W b hx => run_digit (by omega) (by rw [hx, hu]))
      have hcv0 := Hcv.out _ _ ((Boxed.new w [.int .u8 (IntKind.u8.wrap (IntKind.i64.wrap (48 + (n : Int).tmod 10)))] 5).ext (Ext.refl _).drew).at0
      have hcv1 := Hcv.out _ _ (Boxed.new w [.int .u8 (IntKind.u8.wrap (IntKind.i64.wrap (48 + (n : Int).tmod 10)))] 5).at0
      have hsz : ¬ 9223372036854775807 < (decB (n / 10)).size + (dgB (n % 10)).size := by
        rw [dgB_size]
        have := decB_size (n / 10)
        omega
      clear hu
      rw [decB_more h10]
      go_wp2_with fail
      go_region_law (first | (go_simp; go_at_call 132; rw [Hwq.out]; refine Calls.mono (ih (n / 10) (by omega) _ (by omega)) ?_; rintro e wc ⟨rfl, hxc⟩; have hcv2 := Hcv.out _ _ (Boxed.new wc [.int .u8 (IntKind.u8.wrap (IntKind.i64.wrap (48 + (n : Int).tmod 10)))] 5).at0; try (have hcv3 := Hcv.out wc w.heap.size ((hxc.cell (p := ⟨w.heap.size, 0, none⟩) (by simp)).trans (by first | exact ((Boxed.new w [.int .u8 (IntKind.u8.wrap (IntKind.i64.wrap (48 + (n : Int).tmod 10)))] 5).ext (Ext.refl _).drew).at0 | exact (Boxed.new w [.int .u8 (IntKind.u8.wrap (IntKind.i64.wrap (48 + (n : Int).tmod 10)))] 5).at0)))))
      all_goals
        go_wp2_with fail
        go_ret
        exact ⟨rfl, (by repeat (first | exact Ext.refl _ | assumption | refine Ext.alloc ?_ _ | refine Ext.drew ?_ | refine Ext.drewN ?_ _ | refine Ext.setCell ?_ (by first | (simp; done) | (simp; omega) | omega) _ | refine Ext.trans ?_ (by assumption)))⟩
/-- a number written out, with its sign -/
def numB (x : Int) : ByteArray := if x < 0 then ⟨#[45]⟩ ++ decB x.natAbs else decB x.toNat
theorem numB_neg {x : Int} (h : x < 0) : numB x = ⟨#[45]⟩ ++ decB x.natAbs := if_pos h
theorem numB_pos {x : Int} (h : ¬ x < 0) : numB x = decB x.toNat := if_neg h
theorem numB_size (x : Int) : (numB x).size ≤ x.natAbs + 2 := by
  unfold numB
  split
  · rw [ByteArray.size_append]
    have := decB_size x.natAbs
    have h1 : (⟨#[45]⟩ : ByteArray).size = 1 := rfl
    omega
  · have := decB_size x.toNat
    omega
theorem itoa_numB (x : Int) : (⟨(Lib.itoa x).toArray⟩ : ByteArray) = numB x := by
  unfold Lib.itoa numB decB
  split
  · apply ByteArray.ext
    simp
  · rfl
end Go.Proofs.YtbddkmlfjghllaaGreatDoor

/- Contract: l01Join. -/
namespace Go.Proofs.YtbddkmlfjghllaaGreatDoor
set_option linter.unusedVariables false
set_option linter.unusedSimpArgs false
open Go.RowKit
attribute [local go_sem] cell_onto

def joinN (f : Nat → ByteArray) (by' : ByteArray) : Nat → ByteArray
  | 0 => ⟨#[]⟩
  | k + 1 => (if k = 0 then joinN f by' k else joinN f by' k ++ by') ++ f k
theorem joinN_first (f : Nat → ByteArray) (b : ByteArray) : joinN f b 1 = joinN f b 0 ++ f 0 := rfl
theorem joinN_next (f : Nat → ByteArray) (b : ByteArray) {k : Nat} (h : 0 < k) : joinN f b (k + 1) = joinN f b k ++ b ++ f k := by
  show (if k = 0 then _ else _) ++ f k = _
  rw [if_neg (by omega)]
theorem joinN_size {f : Nat → ByteArray} {b : ByteArray} {M : Nat} (hb : b.size ≤ M) : ∀ k, (∀ i, i < k → (f i).size ≤ M) → (joinN f b k).size ≤ 2 * M * k
  | 0, _ => Nat.zero_le _
  | k + 1, hf => by
    have ih := joinN_size hb k (fun i hi => hf i (by omega))
    have h1 := hf k (by omega)
    have e : 2 * M * (k + 1) = 2 * M * k + 2 * M := by rw [Nat.mul_add, Nat.mul_one]
    by_cases h : 0 < k
    · rw [joinN_next f b h, ByteArray.size_append, ByteArray.size_append]; omega
    · obtain rfl : k = 0 := by omega
      rw [joinN_first, ByteArray.size_append]; omega
set_option maxRecDepth 100000 in
set_option maxHeartbeats 2000000 in
theorem spec_l01Join (g n c : Nat) (f : Nat → ByteArray) (b : ByteArray) (w : World) (hn : n ≤ 100) (hc : n ≤ c) (hg : g < w.heap.size) (hcell : ∀ i, i < n → w.cell? ⟨g, i, none⟩ = some (.string (f i))) (hb : b.size ≤ 1000000) (hf : ∀ i, i < n → (f i).size ≤ 1000000) :
    Calls Tryz.prog 133 #[.slice (some ⟨g, 0, none⟩) n c, .string b] w (RetX (.string (joinN f b n)) w) := by
  have Hcell := Lib.hid hcell
  have Hf := Lib.hid hf
  clear hcell hf
  go_enter Tryz.func133, Tryz.ntmps133
  go_wp2_with fail
  go_loopg [5, 6] n (fun k out i wr => ∃ j : Nat, j + k = n ∧ i = .int .i64 j ∧ out = .string (joinN f b j) ∧ Ext w wr)
  case atStart => exact ⟨0, by omega, rfl, rfl, (by repeat (first | exact Ext.refl _ | assumption | refine Ext.alloc ?_ _ | refine Ext.drew ?_ | refine Ext.drewN ?_ _ | refine Ext.setCell ?_ (by first | (simp; done) | (simp; omega) | omega) _ | refine Ext.trans ?_ (by assumption)))⟩
  case round =>
    obtain ⟨j, hj, rfl, rfl, hx⟩ := hrel
    have hJ := joinN_size hb j (fun i hi => Hf.out i (by omega))
    have hJ2 : 2 * 1000000 * j ≤ 200000000 := by omega
    by_cases hlt : j < n
    · have h1 : wr.cell? ⟨g, j, none⟩ = some (.string (f j)) := (hx.cell (p := ⟨g, j, none⟩) hg).trans (Hcell.out j hlt)
      have hfj := Hf.out j hlt
      have hgr : g < wr.heap.size := Nat.lt_of_lt_of_le hg hx.size
      have hji : (j : Int) < (n : Int) := by omega
      have hj0 : (0 : Int) ≤ (j : Int) := by omega
      by_cases hz : 0 < j
      · have hzi : (0 : Int) < (j : Int) := by omega
        have e1 := Lib.hid (joinN_next f b hz)
        go_wp2_with fail
        go_roundg (n - (j + 1))
        case measure => omega
        case rel => exact ⟨j + 1, by omega, by go_num, by rw [e1.out], (by repeat (first | exact Ext.refl _ | assumption | refine Ext.alloc ?_ _ | refine Ext.drew ?_ | refine Ext.drewN ?_ _ | refine Ext.setCell ?_ (by first | (simp; done) | (simp; omega) | omega) _ | refine Ext.trans ?_ (by assumption)))⟩
      · obtain rfl : j = 0 := by omega
        have e1 := Lib.hid (joinN_first f b)
        go_wp2_with fail
        go_roundg (n - (0 + 1))
        case measure => omega
        case rel => exact ⟨1, by omega, by go_num, by rw [e1.out], (by repeat (first | exact Ext.refl _ | assumption | refine Ext.alloc ?_ _ | refine Ext.drew ?_ | refine Ext.drewN ?_ _ | refine Ext.setCell ?_ (by first | (simp; done) | (simp; omega) | omega) _ | refine Ext.trans ?_ (by assumption)))⟩
    · obtain rfl : j = n := by omega
      go_wp2_with fail
      go_ret
      exact ⟨rfl, (by repeat (first | exact Ext.refl _ | assumption | refine Ext.alloc ?_ _ | refine Ext.drew ?_ | refine Ext.drewN ?_ _ | refine Ext.setCell ?_ (by first | (simp; done) | (simp; omega) | omega) _ | refine Ext.trans ?_ (by assumption)))⟩
end Go.Proofs.YtbddkmlfjghllaaGreatDoor
