/- Contracts: CountDays, NthDay, and the laws' dice. -/
import Derived.Test.YtbddkmlfjghllaaGreatDoorT1G
import Derived.Test.YtbddkmlfjghllaaGreatDoorT1S
import Derived.IntWalk
import Derived.Deep.QuietTactic
import Derived.BigQuiet
import Derived.StillTailTactics
import Derived.Laws.Bits64b
namespace Go.Proofs.YtbddkmlfjghllaaGreatDoor
set_option linter.unusedVariables false
set_option linter.unusedSimpArgs false
open Go.RowKit
attribute [local go_sem] cell_onto

noncomputable def cdE (l : List Sp) : Int := bif B (SetOk l) then 0 else 1
noncomputable def cdV (l : List Sp) : Int := bif B (SetOk l) then days l else 0
theorem cd_ok {l : List Sp} (h : SetOk l) : cdE l = 0 ∧ cdV l = days l := by unfold cdE cdV; rw [B_true h]; exact ⟨rfl, rfl⟩
theorem cd_no {l : List Sp} (h : ¬ SetOk l) : cdE l = 1 ∧ cdV l = 0 := by unfold cdE cdV; rw [B_false h]; exact ⟨rfl, rfl⟩
/-- the laws' dice in memory -/
def Dice (w : World) (b : Nat) (cv : Value) : Prop := ∃ (h : Int), Boxed w b [cv, .int .i64 0, .int .u64 h]
set_option maxRecDepth 100000 in
set_option maxHeartbeats 2000000 in
theorem laws_roll (cn : Nat) (cv : Value) (seed : Int) (w : World) (h : Bytes w 0 w.heap.size cv cn) : Calls Tryz.prog 34 #[cv, .int .u64 seed] w (fun e w' => ∃ b, e = .returned (.pointer (some ⟨b, 0, none⟩)) ∧ w.heap.size ≤ b ∧ Ext w w' ∧ Dice w' b cv) := by
  obtain ⟨A, c, rfl, hc⟩ := h.len
  have H := Lib.hid h
  have hcn : cn ≤ 4096 := h.1
  clear h
  go_enter Tryz.func34, Tryz.ntmps34
  go_wp2_with fail
  obtain ⟨wb, hwb⟩ : ∃ x : World, x = w.alloc (.cells #[.slice A cn c, .int .i64 0, .int .u64 (IntKind.u64.wrap (IntKind.u64.wrap (seed * 9419) + IntKind.u64.wrap (cn : Int)))] 137) := ⟨_, rfl⟩
  go_loopg [6] cn (fun q i wr => ∃ (j : Nat) (h : Int), j + q = cn ∧ i = .int .i64 j ∧ Ext w wr ∧ Boxed wr w.heap.size [.slice A cn c, .int .i64 0, .int .u64 h])
  case atStart => exact ⟨0, _, by omega, rfl, (by repeat (first | exact Ext.refl _ | assumption | refine Ext.alloc ?_ _ | refine Ext.drew ?_ | refine Ext.drewN ?_ _ | refine Ext.setCell ?_ (by first | (simp; done) | (simp; omega) | omega) _ | refine Ext.trans ?_ (by assumption))), Boxed.new w [.slice A cn c, .int .i64 0, .int .u64 _] 137⟩
  case round =>
    obtain ⟨j, h, hj, rfl, hx, hb⟩ := hrel
    have bx0 := hb.at0
    have bx1 := hb.at1
    have bx2 := hb.at2
    have fz2 := hb.fz 2 (by simp)
    have hgz := hb.1
    have Hb := Lib.hid hb
    clear hb
    by_cases hlt : j < cn
    · obtain ⟨b, off, y, rfl, hb0, hc0, y0, y1⟩ := (H.out.ext hx (Nat.le_refl _)).at_ hlt
      have T1 : decide ((j : Int) < (cn : Int)) = true := decide_eq_true (by omega)
      have hne : b ≠ w.heap.size := by omega
      go_wp2_with fail
      go_still_tail 15, (by kernel_rfl)
      go_wp2_with fail
      go_roundg (cn - (j + 1))
      case measure => omega
      case rel => exact ⟨j + 1, _, by omega, by go_num, (by repeat (first | exact Ext.refl _ | assumption | refine Ext.alloc ?_ _ | refine Ext.drew ?_ | refine Ext.drewN ?_ _ | refine Ext.setCell ?_ (by first | (simp; done) | (simp; omega) | omega) _ | refine Ext.trans ?_ (by assumption))), (Hb.out.ext (by repeat (first | exact Ext.refl _ | assumption | refine Ext.alloc ?_ _ | refine Ext.drew ?_ | refine Ext.drewN ?_ _ | refine Ext.setCell ?_ (by first | (simp; done) | (simp; omega) | omega) _ | refine Ext.trans ?_ (by assumption)))).set 2 _ (by simp)⟩
    · have T1 : decide ((j : Int) < (cn : Int)) = false := decide_eq_false (by omega)
      go_wp2_with fail
      go_ret
      exact ⟨w.heap.size, rfl, Nat.le_refl _, hx, _, Hb.out⟩
theorem u64_bd (z : Int) : 0 ≤ IntKind.u64.wrap z ∧ IntKind.u64.wrap z ≤ 18446744073709551615 := by
  simp [IntKind.wrap, IntKind.signed, IntKind.bits]
  omega
theorem dice_bd (z : Int) : 0 ≤ bits BinOp.and IntKind.u64 (IntKind.u64.wrap z / 8589934592) 16777215 ∧ bits BinOp.and IntKind.u64 (IntKind.u64.wrap z / 8589934592) 16777215 ≤ 16777215 := by
  obtain ⟨h0, h1⟩ := u64_bd z
  generalize IntKind.u64.wrap z = y at *
  have e0 : 0 ≤ y / 8589934592 := by omega
  have h := bits_and_u64_nat (y / 8589934592).toNat 16777215 (by omega) (by omega)
  rw [Int.toNat_of_nonneg e0] at h
  have hle : (y / 8589934592).toNat &&& 16777215 ≤ 16777215 := Nat.and_le_right
  have h' : bits BinOp.and IntKind.u64 (y / 8589934592) 16777215 = (((y / 8589934592).toNat &&& 16777215 : Nat) : Int) := h
  omega
set_option maxRecDepth 100000 in
set_option maxHeartbeats 2000000 in
theorem laws_below (cn b : Nat) (cv : Value) (n : Int) (w0 w : World) (h : Bytes w 0 w0.heap.size cv cn) (hb : w0.heap.size ≤ b) (hx : Ext w0 w) (hd : Dice w b cv) (hn : 1 ≤ n) :
    Calls Tryz.prog 35 #[.pointer (some ⟨b, 0, none⟩), .int .i64 n] w (fun e w' => ∃ r : Int, e = .returned (.int .i64 r) ∧ 0 ≤ r ∧ r < n ∧ Ext w0 w') := by
  obtain ⟨A, c, rfl, hc⟩ := h.len
  have H := Lib.hid h
  have hcn : cn ≤ 4096 := h.1
  obtain ⟨h0, hbx⟩ := hd
  have bx0 := hbx.at0
  have bx1 := hbx.at1
  have bx2 := hbx.at2
  have fz1 := hbx.fz 1 (by simp)
  have fz2 := hbx.fz 2 (by simp)
  have bg := hbx.1
  have Hb := Lib.hid hbx
  clear h hbx
  go_enter Tryz.func35, Tryz.ntmps35
  go_wp2_with fail
  obtain ⟨z, hz⟩ : ∃ z, z = IntKind.u64.wrap (h0 * 6364136223846793005) + 1442695040888963407 := ⟨_, rfl⟩
  rw [← hz]
  have hbd := dice_bd z
  have Hx0 : Hid (Ext w0 (w.setCell ⟨b, 2, none⟩ (.int .u64 (IntKind.u64.wrap z)))) := Lib.hid (hx.setCell (p := ⟨b, 2, none⟩) hb _)
  have hbx := Hb.out.set 2 (.int .u64 (IntKind.u64.wrap z)) (by simp)
  have HC : Hid (Bytes (w.setCell ⟨b, 2, none⟩ (.int .u64 (IntKind.u64.wrap z))) 0 w0.heap.size (.slice A cn c) cn) := Lib.hid (H.out.off (S := One b) (Off.setCell (S := One b) (p := ⟨b, 2, none⟩) (Off.refl _ _) (.inl rfl) _) (fun k _ h2 hh => by have e : k = b := hh; omega) hx.size)
  generalize w.setCell ⟨b, 2, none⟩ (.int .u64 (IntKind.u64.wrap z)) = w1 at *
  have Hb1 := Lib.hid (show Boxed w1 b [.slice A cn c, .int .i64 0, .int .u64 (IntKind.u64.wrap z)] from hbx)
  obtain ⟨x, hx9⟩ : ∃ x, x = bits BinOp.and IntKind.u64 (IntKind.u64.wrap z / 8589934592) 16777215 := ⟨_, rfl⟩
  rw [← hx9] at hbd
  rw [← hx9]
  have hw9 : wrap64 x = x := by unfold wrap64; omega
  rw [hw9]
  clear bx0 bx1 bx2 fz1 fz2 hbx bg hw9 hx9
  have bx0 := Hb1.out.at0
  have bx1 := Hb1.out.at1
  have fz1 := Hb1.out.fz 1 (by simp)
  have hg1 : b < w1.heap.size := Hb1.out.1
  have hnz : ¬ n = 0 := by omega
  by_cases hlt : 0 < cn
  · obtain ⟨b2, off, y, rfl, hb2, hc0, y0, y1⟩ := HC.out.at_ hlt
    rw [Nat.add_zero] at hc0
    have hlt' : decide ((0 : Int) < (cn : Int)) = true := decide_eq_true (by omega)
    have hci : (0 : Int) < (cn : Int) := by omega
    have W1 : IntKind.i64.wrap (x + y) = x + y := IntWalk.i64_in _ (by omega)
    go_quiet (fail)
    go_wp2_with fail
    go_quiet (fail)
    go_wp2_with fail
    have hx0 := Hx0.out
    go_ret
    exact ⟨_, rfl, Int.emod_nonneg _ (by omega), Int.emod_lt_of_pos _ (by omega), (by repeat (first | exact Ext.refl _ | assumption | refine Ext.alloc ?_ _ | refine Ext.drew ?_ | refine Ext.drewN ?_ _ | refine Ext.setCell ?_ (by first | (simp; done) | (simp; omega) | omega) _ | refine Ext.trans ?_ (by assumption)))⟩
  · have hlt' : decide ((0 : Int) < (cn : Int)) = false := decide_eq_false (by omega)
    have hci : ¬ (0 : Int) < (cn : Int) := by omega
    go_quiet (fail)
    go_wp2_with fail
    have hx0 := Hx0.out
    go_ret
    exact ⟨_, rfl, Int.emod_nonneg _ (by omega), Int.emod_lt_of_pos _ (by omega), (by repeat (first | exact Ext.refl _ | assumption | refine Ext.alloc ?_ _ | refine Ext.drew ?_ | refine Ext.drewN ?_ _ | refine Ext.setCell ?_ (by first | (simp; done) | (simp; omega) | omega) _ | refine Ext.trans ?_ (by assumption)))⟩
end Go.Proofs.YtbddkmlfjghllaaGreatDoor
