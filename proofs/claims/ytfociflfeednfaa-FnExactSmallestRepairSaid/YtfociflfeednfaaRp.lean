/- Contracts: whether statements repair or contradict: the program's. -/
import Derived.Test.YtfociflfeednfaaGx
import Derived.Test.YtfociflfeednfaaRb
import Derived.Test.YtfociflfeednfaaSo
import Derived.Test.YtfociflfeednfaaHa
namespace Go.Proofs.Ytfociflfeednfaa
set_option linter.unusedVariables false
set_option linter.unusedSimpArgs false
open Go.RowKit
attribute [local go_sem] cell_onto

noncomputable def repB (n : Net) (l : List Int) : Bool := B (Sol (giveN (fun i => HasI l i) n))
noncomputable def conB (n : Net) (l : List Int) : Bool := !B (Sol (giveN (fun i => ¬ HasI l i) n))

set_option maxHeartbeats 400000 in
theorem impl_repairs_1 (i : Int) (gb : Nat) (v : Value) (l : List Int) (w : World) (hb : w.cell? ⟨gb, 0, none⟩ = some v) (hg : gb < w.heap.size) (h : Ints w 0 w.heap.size v l) :
    Calls Try.prog 62 #[.int .i64 i, .pointer (some ⟨gb, 0, none⟩)] w (RetX (.bool (B (HasI l i))) w) := by
  obtain ⟨A, c, rfl, _, _⟩ := h.len
  have H := Lib.hid h
  clear h
  go_enter Try.func62, Try.ntmps62
  go_wp2_with fail
  refine Calls.mono (slices_Contains_ints _ l i w H.out) ?_
  rintro e w1 ⟨rfl, hx1⟩
  go_wp2_with fail
  go_ret
  exact ⟨rfl, (by repeat (first | exact Ext.refl _ | assumption | refine Ext.alloc ?_ _ | refine Ext.drew ?_ | refine Ext.drewN ?_ _ | refine Ext.setCell ?_ (by first | (simp; done) | (simp; omega) | omega) _ | refine Ext.trans ?_ (by assumption)))⟩
set_option maxHeartbeats 1000000 in
theorem impl_repairs (s k v : Value) (n : Net) (l : List Int) (w : World) (h : NetIn w s k n) (hl : Ints w 0 w.heap.size v l) (hok : NetOk n) :
    Calls Try.prog 38 #[.agg #[s, k], v] w (RetX (.bool (repB n l)) w) := by
  obtain ⟨A, c, rfl, hn, hc⟩ := hl.len
  have H := Lib.hid h
  have Hl := Lib.hid hl
  have Hok := Lib.hid hok
  have hx : Ext w ((w.alloc (.cells #[s, k] 33)).alloc (.cells #[.slice A l.length c] 26)) := (by repeat (first | exact Ext.refl _ | assumption | refine Ext.alloc ?_ _ | refine Ext.drew ?_ | refine Ext.drewN ?_ _ | refine Ext.setCell ?_ (by first | (simp; done) | (simp; omega) | omega) _ | refine Ext.trans ?_ (by assumption)))
  have Hlb : Hid (Boxed ((w.alloc (.cells #[s, k] 33)).alloc (.cells #[.slice A l.length c] 26)) (w.heap.size + 1) [.slice A l.length c]) := Lib.hid (by
    have := Boxed.new (w.alloc (.cells #[s, k] 33)) [.slice A l.length c] 26
    rwa [World.size_alloc] at this)
  have Hx := Lib.hid hx
  clear h hl hok hx
  go_enter Try.func38, Try.ntmps38
  go_wp2_with fail
  refine Calls.mono (impl_giveUp s k n 62 #[.pointer (some ⟨w.heap.size + 1, 0, none⟩)] (fun i => HasI l i) _ (H.out.up Hx.out) Hok.out Try.call62 (fun i w' _ hxx => impl_repairs_1 i (w.heap.size + 1) _ l w' ((Hlb.out.ext hxx).at0) (Hlb.out.ext hxx).1 (Hl.out.up (Hx.out.trans hxx)))) ?_
  rintro e w2 ⟨gs, gk, rfl, hx2, ho⟩
  have Ho := Lib.hid ho.net.netIn
  have Hf := Lib.hid (NetFit.of (giveN_ok (is := fun i => HasI l i) Hok.out))
  have hxw2 : Ext w w2 := Hx.out.trans hx2
  clear ho hx2
  go_wp2_with fail
  refine Calls.mono (impl_isSolvable gs gk _ _ Ho.out Hf.out) ?_
  rintro e w3 ⟨rfl, hx3⟩
  go_wp2_with fail
  go_ret
  exact ⟨rfl, (by repeat (first | exact Ext.refl _ | assumption | refine Ext.alloc ?_ _ | refine Ext.drew ?_ | refine Ext.drewN ?_ _ | refine Ext.setCell ?_ (by first | (simp; done) | (simp; omega) | omega) _ | refine Ext.trans ?_ (by assumption)))⟩
set_option maxHeartbeats 400000 in
theorem impl_contradict_1 (i : Int) (gb : Nat) (v : Value) (l : List Int) (w : World) (hb : w.cell? ⟨gb, 0, none⟩ = some v) (hg : gb < w.heap.size) (h : Ints w 0 w.heap.size v l) :
    Calls Try.prog 56 #[.int .i64 i, .pointer (some ⟨gb, 0, none⟩)] w (RetX (.bool (B (¬ HasI l i))) w) := by
  obtain ⟨A, c, rfl, _, _⟩ := h.len
  have H := Lib.hid h
  clear h
  go_enter Try.func56, Try.ntmps56
  go_wp2_with fail
  refine Calls.mono (slices_Contains_ints _ l i w H.out) ?_
  rintro e w1 ⟨rfl, hx1⟩
  go_wp2_with fail
  go_ret
  exact ⟨ret_bool (B_eq (by simp [B_not])), (by repeat (first | exact Ext.refl _ | assumption | refine Ext.alloc ?_ _ | refine Ext.drew ?_ | refine Ext.drewN ?_ _ | refine Ext.setCell ?_ (by first | (simp; done) | (simp; omega) | omega) _ | refine Ext.trans ?_ (by assumption)))⟩
set_option maxHeartbeats 1000000 in
theorem impl_contradict (s k v : Value) (n : Net) (l : List Int) (w : World) (h : NetIn w s k n) (hl : Ints w 0 w.heap.size v l) (hok : NetOk n) :
    Calls Try.prog 31 #[.agg #[s, k], v] w (RetX (.bool (conB n l)) w) := by
  obtain ⟨A, c, rfl, hn, hc⟩ := hl.len
  have H := Lib.hid h
  have Hl := Lib.hid hl
  have Hok := Lib.hid hok
  have hx : Ext w ((w.alloc (.cells #[s, k] 33)).alloc (.cells #[.slice A l.length c] 26)) := (by repeat (first | exact Ext.refl _ | assumption | refine Ext.alloc ?_ _ | refine Ext.drew ?_ | refine Ext.drewN ?_ _ | refine Ext.setCell ?_ (by first | (simp; done) | (simp; omega) | omega) _ | refine Ext.trans ?_ (by assumption)))
  have Hlb : Hid (Boxed ((w.alloc (.cells #[s, k] 33)).alloc (.cells #[.slice A l.length c] 26)) (w.heap.size + 1) [.slice A l.length c]) := Lib.hid (by
    have := Boxed.new (w.alloc (.cells #[s, k] 33)) [.slice A l.length c] 26
    rwa [World.size_alloc] at this)
  have Hx := Lib.hid hx
  clear h hl hok hx
  go_enter Try.func31, Try.ntmps31
  go_wp2_with fail
  refine Calls.mono (impl_giveUp s k n 56 #[.pointer (some ⟨w.heap.size + 1, 0, none⟩)] (fun i => ¬ HasI l i) _ (H.out.up Hx.out) Hok.out Try.call56 (fun i w' _ hxx => impl_contradict_1 i (w.heap.size + 1) _ l w' ((Hlb.out.ext hxx).at0) (Hlb.out.ext hxx).1 (Hl.out.up (Hx.out.trans hxx)))) ?_
  rintro e w2 ⟨gs, gk, rfl, hx2, ho⟩
  have Ho := Lib.hid ho.net.netIn
  have Hf := Lib.hid (NetFit.of (giveN_ok (is := fun i => ¬ HasI l i) Hok.out))
  have hxw2 : Ext w w2 := Hx.out.trans hx2
  clear ho hx2
  go_wp2_with fail
  refine Calls.mono (impl_isSolvable gs gk _ _ Ho.out Hf.out) ?_
  rintro e w3 ⟨rfl, hx3⟩
  go_wp2_with fail
  go_ret
  exact ⟨rfl, (by repeat (first | exact Ext.refl _ | assumption | refine Ext.alloc ?_ _ | refine Ext.drew ?_ | refine Ext.drewN ?_ _ | refine Ext.setCell ?_ (by first | (simp; done) | (simp; omega) | omega) _ | refine Ext.trans ?_ (by assumption)))⟩

noncomputable def isRepV (n : Net) (l : List Int) : Bool := bif B (blE n l = 0) then repB n l else false
noncomputable def doConV (n : Net) (l : List Int) : Bool := bif B (blE n l = 0) then conB n l else false
theorem isRepV_no {n : Net} {l : List Int} (h : blE n l ≠ 0) : isRepV n l = false := by unfold isRepV; rw [B_false h]; rfl
theorem isRepV_ok {n : Net} {l : List Int} (h : blE n l = 0) : isRepV n l = repB n l := by unfold isRepV; rw [B_true h]; rfl
theorem doConV_no {n : Net} {l : List Int} (h : blE n l ≠ 0) : doConV n l = false := by unfold doConV; rw [B_false h]; rfl
theorem doConV_ok {n : Net} {l : List Int} (h : blE n l = 0) : doConV n l = conB n l := by unfold doConV; rw [B_true h]; rfl
end Go.Proofs.Ytfociflfeednfaa
