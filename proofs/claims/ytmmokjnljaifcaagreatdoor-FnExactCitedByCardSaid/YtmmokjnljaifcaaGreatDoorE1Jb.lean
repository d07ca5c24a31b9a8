/- Contracts: names of small letters (the program's by the shelf's strings.Trim). -/
import Derived.Test.YtmmokjnljaifcaaGreatDoorE1A
import Derived.Test.YtmmokjnljaifcaaGreatDoorE1Jd
import Derived.Test.YtmmokjnljaifcaaGreatDoorTr
namespace Go.Proofs.YtmmokjnljaifcaaGreatDoor
set_option linter.unusedVariables false
set_option linter.unusedSimpArgs false
open Go.RowKit
attribute [local go_sem] cell_onto

set_option maxRecDepth 100000 in
set_option maxHeartbeats 2000000 in
theorem impl_isSmall (s : ByteArray) (k : Int) (w : World) (hk : k ≤ 9223372036854775807) : Calls Tryz.prog 157 #[.string s, .int .i64 k] w (RetX (.bool (B (NameOk s k))) w) := by
  by_cases h1 : (1 : Int) ≤ (s.size : Int)
  case neg =>
    have h1d : decide ((1 : Int) ≤ (s.size : Int)) = false := decide_eq_false h1
    go_enter Tryz.func157, Tryz.ntmps157
    go_wp2_with fail
    go_ret
    exact ⟨ret_bool (B_false (fun h => by have := h.1; omega)).symm, (by repeat (first | exact Ext.refl _ | assumption | refine Ext.alloc ?_ _ | refine Ext.drew ?_ | refine Ext.drewN ?_ _ | refine Ext.setCell ?_ (by first | (simp; done) | (simp; omega) | omega) _ | refine Ext.trans ?_ (by assumption)))⟩
  have h1d : decide ((1 : Int) ≤ (s.size : Int)) = true := decide_eq_true h1
  by_cases h2 : (s.size : Int) ≤ k
  case neg =>
    have h2d : decide ((s.size : Int) ≤ k) = false := decide_eq_false h2
    go_enter Tryz.func157, Tryz.ntmps157
    go_wp2_with fail
    go_ret
    exact ⟨ret_bool (B_false (fun h => by have := h.2.1; omega)).symm, (by repeat (first | exact Ext.refl _ | assumption | refine Ext.alloc ?_ _ | refine Ext.drew ?_ | refine Ext.drewN ?_ _ | refine Ext.setCell ?_ (by first | (simp; done) | (simp; omega) | omega) _ | refine Ext.trans ?_ (by assumption)))⟩
  have h2d : decide ((s.size : Int) ≤ k) = true := decide_eq_true h2
  have hs : s.size ≤ 9223372036854775807 := by omega
  have H := Lib.hid (Any.strings_Trim_laid Tryz.trimL (by kernel_rfl) s ⟨#[97, 98, 99, 100, 101, 102, 103, 104, 105, 106, 107, 108, 109, 110, 111, 112, 113, 114, 115, 116, 117, 118, 119, 120, 121, 122]⟩ w hs (by decide) (ascii_of_all (by decide)))
  go_enter Tryz.func157, Tryz.ntmps157
  go_wp2_with fail
  refine Calls.mono H.out ?_
  rintro e w1 ⟨rfl, hx⟩
  have hx1 : Ext w w1 := hx
  have ht := trim_name s
  have Ht := Lib.hid (show (⟨(Lib.trimS s.data.toList abc).toArray⟩ : ByteArray).toList.isEmpty = B (LowB s) from B_eq (by rw [← ht]; cases (⟨(Lib.trimS s.data.toList abc).toArray⟩ : ByteArray).toList <;> simp [toList_data]))
  clear ht hx
  have he : ({ data := (Lib.trimS s.data.toList (⟨#[97, 98, 99, 100, 101, 102, 103, 104, 105, 106, 107, 108, 109, 110, 111, 112, 113, 114, 115, 116, 117, 118, 119, 120, 121, 122]⟩ : ByteArray).data.toList).toArray } : ByteArray) = ⟨(Lib.trimS s.data.toList abc).toArray⟩ := rfl
  rw [he]
  clear he
  generalize (⟨(Lib.trimS s.data.toList abc).toArray⟩ : ByteArray) = t at *
  have Ht2 := Ht.out
  go_wp2_with fail
  go_ret
  refine ⟨ret_bool ?_, (by repeat (first | exact Ext.refl _ | assumption | refine Ext.alloc ?_ _ | refine Ext.drew ?_ | refine Ext.drewN ?_ _ | refine Ext.setCell ?_ (by first | (simp; done) | (simp; omega) | omega) _ | refine Ext.trans ?_ (by assumption)))⟩
  (try rw [Ht.out])
  exact B_congr ⟨fun h => ⟨h1, h2, h⟩, fun h => h.2.2⟩
set_option maxRecDepth 100000 in
set_option maxHeartbeats 2000000 in
theorem spec_l01Name (s : ByteArray) (k : Int) (w : World) (hs : s.size ≤ 9223372036854775807) : Calls Tryz.prog 170 #[.string s, .int .i64 k] w (RetS (.bool (B (NameOk s k))) w) := by
  have hb := get_byt s
  go_enter Tryz.func170, Tryz.ntmps170
  go_wp2_with fail
  go_loopg [5] s.size (fun q i wr => ∃ j : Nat, j + q = s.size ∧ i = .int .i64 j ∧ wr = w ∧ ∀ i, i < j → 97 ≤ byt s i ∧ byt s i ≤ 122)
  case atStart => exact ⟨0, by omega, rfl, rfl, fun i hi => absurd hi (by omega)⟩
  case round =>
    obtain ⟨j, hj, rfl, rfl, hok⟩ := hrel
    have Hok := Lib.hid hok
    clear hok
    by_cases hlt : j < s.size
    · have hji : (j : Int) < (s.size : Int) := by omega
      have hj0 : (0 : Int) ≤ (j : Int) := by omega
      by_cases h1 : 97 ≤ byt s j
      · by_cases h2 : byt s j ≤ 122
        · have d1 : decide (byt s j < 97) = false := decide_eq_false (by omega)
          have d2 : decide (byt s j ≤ 122) = true := decide_eq_true h2
          go_wp2_with fail
          go_roundg (s.size - (j + 1))
          case measure => omega
          case rel =>
            refine ⟨j + 1, by omega, by go_num, rfl, fun i hi => ?_⟩
            by_cases e : i = j
            · subst e; exact ⟨h1, h2⟩
            · exact Hok.out i (by omega)
        · have d1 : decide (byt s j < 97) = false := decide_eq_false (by omega)
          have d2 : decide (byt s j ≤ 122) = false := decide_eq_false h2
          go_wp2_with fail
          go_ret
          exact ⟨ret_bool (B_false (fun h => by have := (h.2.2 j hlt).2; omega)).symm, rfl⟩
      · have d1 : decide (byt s j < 97) = true := decide_eq_true (by omega)
        go_wp2_with fail
        go_ret
        exact ⟨ret_bool (B_false (fun h => by have := (h.2.2 j hlt).1; omega)).symm, rfl⟩
    · obtain rfl : j = s.size := by omega
      have hji : ¬ (s.size : Int) < (s.size : Int) := by omega
      clear hlt
      by_cases h1 : (1 : Int) ≤ (s.size : Int)
      · by_cases h2 : (s.size : Int) ≤ k
        · go_wp2_with fail
          go_ret
          exact ⟨ret_bool (B_true ⟨h1, h2, Hok.out⟩).symm, rfl⟩
        · have h2d : decide ((s.size : Int) ≤ k) = false := decide_eq_false h2
          go_wp2_with fail
          go_ret
          exact ⟨ret_bool (B_false (fun h => by have := h.2.1; omega)).symm, rfl⟩
      · have h1d : decide ((1 : Int) ≤ (s.size : Int)) = false := decide_eq_false h1
        go_wp2_with fail
        go_ret
        exact ⟨ret_bool (B_false (fun h => by have := h.1; omega)).symm, rfl⟩
end Go.Proofs.YtmmokjnljaifcaaGreatDoor
