/- A law: a region that draws its order, by an invariant on what has come up. -/
import Derived.Orders
import Derived.Deep.RegionHeld3
namespace Go.Proofs.YtmmokjnljaifcaaGreatDoor
set_option linter.unusedVariables false
set_option linter.unusedSimpArgs false
open Go

/-- what has come up has come up behind all that it waits for -/
def Closed (md : Region.Mode) (ops : Array Oper) (listed : Array Bool) : Prop := ∀ j o, ops[j]? = some o → listed.getD j false = true → ∀ e ∈ o.after, Region.binds md e = true → listed.getD e.on false = true
theorem set_get {listed : Array Bool} {i j : Nat} (h : (listed.setIfInBounds i true).getD j false = true) : j = i ∨ listed.getD j false = true := by
  by_cases e : j = i
  · exact .inl e
  · refine .inr ?_
    simp only [Array.getD_eq_getD_getElem?] at h ⊢
    rw [Array.getElem?_setIfInBounds_ne (by omega)] at h
    exact h
theorem set_old {listed : Array Bool} {i j : Nat} (h : listed.getD j false = true) : (listed.setIfInBounds i true).getD j false = true := getD_set_true h
theorem get_one {listed : Array Bool} {i : Nat} (h : listed.getD i true = false) : (listed.setIfInBounds i true).getD i false = true ∧ listed.getD i false = false := by
  simp only [Array.getD_eq_getD_getElem?] at h ⊢
  rcases Nat.lt_or_ge i listed.size with h' | h'
  · simp [h'] at h ⊢
    exact h
  · simp [Array.getElem?_eq_none h'] at h
/-- each waits for what stands above it alone -/
def lowB (ops : Array Oper) : Bool := (List.range ops.size).all (fun j => ((ops[j]?).map (fun o => o.after.all (fun e => decide (e.on < j)))).getD true)
theorem low_done {md : Region.Mode} {ops : Array Oper} (h : lowB ops = true) {listed : Array Bool} (hsz : listed.size = ops.size) (hr : Region.ready md ops listed = []) : ∀ i, i < ops.size → listed.getD i false = true := by
  intro i
  induction i using Nat.strongRecOn with
  | _ i ih =>
    intro hi
    cases hl : listed.getD i false with
    | true => rfl
    | false =>
      have hmem : i ∈ Region.ready md ops listed := by
        refine mem_ready.2 ⟨?_, ops[i], by simp [hi], fun e he _ => ?_⟩
        · simp only [Array.getD_eq_getD_getElem?] at hl ⊢
          have : i < listed.size := by omega
          simp [this] at hl ⊢
          exact hl
        · have h1 := List.all_eq_true.1 h i (List.mem_range.2 hi)
          simp only [Array.getElem?_eq_getElem hi, Option.map_some, Option.getD_some] at h1
          have h2 := Array.all_eq_true_iff_forall_mem.1 h1 e he
          have h3 : e.on < i := by simpa using h2
          exact ih e.on h3 (by omega)
      rw [hr] at hmem
      simp at hmem
end Go.Proofs.YtmmokjnljaifcaaGreatDoor
