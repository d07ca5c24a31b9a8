/- Contracts: the program's checkChoices. -/
import Derived.Test.YtfociflfeednfaaI
import Derived.Test.YtfociflfeednfaaJ
namespace Go.Proofs.Ytfociflfeednfaa
set_option linter.unusedVariables false
set_option linter.unusedSimpArgs false
open Go.RowKit
attribute [local go_sem] cell_onto

def VarsOk (n : Net) (vs : List Int) : Prop := ∀ i, i < vs.length → 0 ≤ inAt vs i ∧ inAt vs i ≤ (n.sets.length : Int) - 1
theorem varsOk_iff {n : Net} {vs : List Int} : ¬ Some_ vs.length (fun i => ¬ (0 ≤ inAt vs i ∧ inAt vs i ≤ (n.sets.length : Int) - 1)) ↔ VarsOk n vs := by
  unfold Some_ VarsOk
  constructor
  · intro h i hi
    exact Classical.byContradiction fun hn => h ⟨i, hi, hn⟩
  · rintro h ⟨i, hi, hn⟩
    exact hn (h i hi)
noncomputable def codeE (n : Net) (b : Bool) : Int := bif B (NetOk n) then (bif b then (bif B (choN 4096 n.sets ≤ 4096) then 0 else 3) else 2) else 1
theorem codeE_net {n : Net} {b : Bool} (h : ¬ NetOk n) : codeE n b = 1 := by unfold codeE; rw [B_false h]; rfl
theorem codeE_bad {n : Net} (h : NetOk n) : codeE n false = 2 := by unfold codeE; rw [B_true h]; rfl
theorem codeE_big {n : Net} (h : NetOk n) (h2 : ¬ choN 4096 n.sets ≤ 4096) : codeE n true = 3 := by unfold codeE; rw [B_true h, B_false h2]; rfl
theorem codeE_ok {n : Net} (h : NetOk n) (h2 : choN 4096 n.sets ≤ 4096) : codeE n true = 0 := by unfold codeE; rw [B_true h, B_true h2]; rfl
theorem codeE_zero {n : Net} {b : Bool} (h : codeE n b = 0) : NetOk n ∧ b = true ∧ choN 4096 n.sets ≤ 4096 := by
  by_cases h1 : NetOk n
  · cases b
    · rw [codeE_bad h1] at h; omega
    · by_cases h2 : choN 4096 n.sets ≤ 4096
      · exact ⟨h1, rfl, h2⟩
      · rw [codeE_big h1 h2] at h; omega
  · rw [codeE_net h1] at h; omega

end Go.Proofs.Ytfociflfeednfaa
