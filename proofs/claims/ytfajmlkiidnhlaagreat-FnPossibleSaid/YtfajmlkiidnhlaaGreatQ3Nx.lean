/- Contracts: NarrowRound, NarrowLink. -/
import Derived.Test.YtfajmlkiidnhlaaGreatQ3Lm
import Derived.Test.YtfajmlkiidnhlaaGreatQ3Na
import Derived.Deep.RegionLaw
namespace Go.Proofs.YtfajmlkiidnhlaaGreat
set_option linter.unusedVariables false
set_option linter.unusedSimpArgs false
open Go.RowKit
attribute [local go_sem] cell_onto

theorem Lib.nil2 {w w' : World} {r : Nat} (c : Int) {m : Net} (hm : m = ⟨[], []⟩) (hx : Ext w w') (hr : w.heap.size ≤ r) :
    NewNet2 m c w (.returned (.tuple #[.agg #[.slice none 0 0, .slice none 0 0], .int .i64 c])) ((w'.setCell ⟨r, 0, none⟩ (.slice none 0 0)).setCell ⟨r, 1, none⟩ (.slice none 0 0)) := by
  subst hm
  exact NewNet2.nil c (hx.stored hr)
/-- NarrowLink's answer -/
noncomputable def nlV (n : Net) (i : Int) : Net := bif B (lnkE n i = 0) then limV (narL n (lkAt n.links i.toNat)) else ⟨[], []⟩
noncomputable def nlE (n : Net) (i : Int) : Int := bif B (lnkE n i = 0) then limE (narL n (lkAt n.links i.toNat)) else lnkE n i
theorem nl_ok {n : Net} {i : Int} (h : lnkE n i = 0) : nlV n i = limV (narL n (lkAt n.links i.toNat)) ∧ nlE n i = limE (narL n (lkAt n.links i.toNat)) := by
  unfold nlV nlE
  rw [B_true h]
  exact ⟨rfl, rfl⟩
theorem nl_no {n : Net} {i : Int} (h : lnkE n i ≠ 0) : nlV n i = ⟨[], []⟩ ∧ nlE n i = lnkE n i := by
  unfold nlV nlE
  rw [B_false h]
  exact ⟨rfl, rfl⟩
theorem nl_lk {n : Net} {i : Int} (h : lnkE n i = 0) : LkOk (lkAt n.links i.toNat) n.sets.length := by
  obtain ⟨h1, h2, h3⟩ := lnk_zero h
  exact h1.2.2.2 i.toNat (by omega)
theorem nlV_small (n : Net) (i : Int) : Small (nlV n i) := by
  by_cases h : lnkE n i = 0
  · rw [(nl_ok h).1]; exact limV_small (narL_ok (lnk_zero h).1.d (nl_lk h)).1
  · rw [(nl_no h).1]; exact small_nil
end Go.Proofs.YtfajmlkiidnhlaaGreat
