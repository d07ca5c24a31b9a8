/- Contracts: numbers written out. -/
import Derived.Test.YtmmokjnljaifcaaGreatDoorE1G
import Derived.Lib.ItoaNum
import Derived.Laws.IdiomStrings
import Derived.Laws.BytesString
import Derived.Deep.RegionHeld3
import Derived.Deep.RegionLaw
import Derived.IntWalk
namespace Go.Proofs.YtmmokjnljaifcaaGreatDoor
set_option linter.unusedVariables false
set_option linter.unusedSimpArgs false
open Go.RowKit
attribute [local go_sem] cell_onto

/-- a digit's letter, and a number written out, as bytes -/
def dgB (d : Nat) : ByteArray := ⟨#[UInt8.ofNat (48 + d)]⟩
def decB (n : Nat) : ByteArray := ⟨(Lib.decDigits n).toArray⟩
theorem decB_one {n : Nat} (h : n < 10) : decB n = dgB n := by unfold decB dgB; rw [Lib.decDigits_one h]
theorem decB_more {n : Nat} (h : ¬ n < 10) : decB n = decB (n / 10) ++ dgB (n % 10) := by
  unfold decB dgB
  rw [Lib.decDigits, dif_neg h]
  apply ByteArray.ext
  simp
theorem dgB_size (d : Nat) : (dgB d).size = 1 := rfl
theorem digit_nat {d : Nat} (hd : d < 10) : (UInt8.ofNat (48 + d)).toNat = 48 + d := by
  rw [UInt8.toNat_ofNat']
  omega
theorem run_digit {W : World} {b d : Nat} (hd : d < 10) (hx : W.cell? ⟨b, 0, none⟩ = some (.int .u8 (48 + (d : Int)))) :
    (convert 22 9 (.slice (some ⟨b, 0, none⟩) 1 1)).run Tryz.prog W = .ok (.string (dgB d)) W :=
  run_convert_bytes_back (P := Tryz.prog) W 22 9 5 ⟨b, 0, none⟩ 1 [UInt8.ofNat (48 + d)] Tryz.underlying22 Tryz.underlying5 Tryz.underlying9 (fun j hj => by
    have hj' : j < 1 := hj
    obtain rfl : j = 0 := by omega
    show W.cell? ⟨b, 0 + 0, none⟩ = some (.int .u8 (((UInt8.ofNat (48 + d)).toNat : Nat) : Int))
    rw [digit_nat hd]
    exact hx)
end Go.Proofs.YtmmokjnljaifcaaGreatDoor
