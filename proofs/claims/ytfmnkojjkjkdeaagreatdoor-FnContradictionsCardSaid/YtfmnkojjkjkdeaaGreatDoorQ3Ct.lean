/- Contracts: the program's choices and solutions, isSolvable. -/
import Derived.Test.YtfmnkojjkjkdeaaGreatDoorQ3Cs
import Derived.Laws.EntriesVeiled
namespace Go.Proofs.YtfmnkojjkjkdeaaGreatDoor
set_option linter.unusedVariables false
set_option linter.unusedSimpArgs false
open Go.RowKit
attribute [local go_sem] cell_onto

theorem ExIn.start {St : List (List Sp) → (Nat → Prop) → World → Prop} {b0 : Nat} {s k fv ev : Value} {n : Net} {l : List (List Sp)} {K : Nat → Prop} {w : World} {T1 T2 : TypeId} (hc : CbOk b0 St) (hst : St l K w) (h : Sets w 0 b0 s n.sets) (hb : b0 ≤ w.heap.size) :
    Ext w (((w.alloc (.cells #[s, k] T1)).alloc (.cells #[fv] T2)).alloc (.cells #[ev] T2)) ∧
    ExIn St b0 w.heap.size (w.heap.size + 1) (w.heap.size + 1 + 1) s k fv ev n l K (((w.alloc (.cells #[s, k] T1)).alloc (.cells #[fv] T2)).alloc (.cells #[ev] T2)) := by
  have hx : Ext w (((w.alloc (.cells #[s, k] T1)).alloc (.cells #[fv] T2)).alloc (.cells #[ev] T2)) := (by repeat (first | exact Ext.refl _ | assumption | refine Ext.alloc ?_ _ | refine Ext.drew ?_ | refine Ext.drewN ?_ _ | refine Ext.setCell ?_ (by first | (simp; done) | (simp; omega) | omega) _ | refine Ext.trans ?_ (by assumption)))
  have h1 : Boxed (((w.alloc (.cells #[s, k] T1)).alloc (.cells #[fv] T2)).alloc (.cells #[ev] T2)) w.heap.size [s, k] := (Boxed.new w [s, k] T1).ext (by repeat (first | exact Ext.refl _ | assumption | refine Ext.alloc ?_ _ | refine Ext.drew ?_ | refine Ext.drewN ?_ _ | refine Ext.setCell ?_ (by first | (simp; done) | (simp; omega) | omega) _ | refine Ext.trans ?_ (by assumption)))
  have h2 : Boxed (((w.alloc (.cells #[s, k] T1)).alloc (.cells #[fv] T2)).alloc (.cells #[ev] T2)) (w.heap.size + 1) [fv] := by
    have := (Boxed.new (w.alloc (.cells #[s, k] T1)) [fv] T2).ext (show Ext _ (((w.alloc (.cells #[s, k] T1)).alloc (.cells #[fv] T2)).alloc (.cells #[ev] T2)) from (by repeat (first | exact Ext.refl _ | assumption | refine Ext.alloc ?_ _ | refine Ext.drew ?_ | refine Ext.drewN ?_ _ | refine Ext.setCell ?_ (by first | (simp; done) | (simp; omega) | omega) _ | refine Ext.trans ?_ (by assumption))))
    rwa [World.size_alloc] at this
  have h3 : Boxed (((w.alloc (.cells #[s, k] T1)).alloc (.cells #[fv] T2)).alloc (.cells #[ev] T2)) (w.heap.size + 1 + 1) [ev] := by
    have := Boxed.new ((w.alloc (.cells #[s, k] T1)).alloc (.cells #[fv] T2)) [ev] T2
    rwa [World.size_alloc, World.size_alloc] at this
  have hk : ∀ g, w.heap.size ≤ g → ¬ K g := fun g hg hh => by have := (hc.lt hst hh).2; omega
  exact ⟨hx, hc.ext hst hx, h1, h2, h3, ⟨hk _ (Nat.le_refl _), hk _ (by omega), hk _ (by omega)⟩, h.ext hx hb, by have := hx.size; omega⟩
theorem nilOwn (w : World) (b sz : Nat) (f : Nat → Value) : Own w b sz (.slice none 0 0) 0 f := ⟨Nat.zero_le _, none, 0, rfl, Nat.le_refl _, fun h => absurd h (by omega)⟩
theorem CbPost.from_ext {St : List (List Sp) → (Nat → Prop) → World → Prop} {l : List (List Sp)} {K : Nat → Prop} {w w1 w2 : World} {e : Ending} (hx : Ext w w1) (h : CbPost St l K w1 e w2) : CbPost St l K w e w2 := by
  obtain ⟨K', rfl, h1, h2, h3⟩ := h
  exact ⟨K', rfl, h1, (Off.of_ext hx).trans h2, fun k hk => (h3 k hk).elim .inl (fun h => .inr (by have := hx.size; omega))⟩
set_option maxRecDepth 100000 in
set_option maxHeartbeats 2000000 in
theorem impl_choices (St : List (List Sp) → (Nat → Prop) → World → Prop) (b0 g : Nat) (caps : Array Value) (s k : Value) (n : Net) (l : List (List Sp)) (K : Nat → Prop) (w : World) (hcb : CbOk b0 St)
    (hg : ∀ (args : Array Value) (w : World), (callFunc g args).run Tryz.prog w = .ok (.enter g args) w) (hf : CbCalls St g caps n) (h8 : n.sets.length ≤ 8) (hfit : SetsFit n.sets)
    (h : Sets w 0 b0 s n.sets) (hb0 : b0 ≤ w.heap.size) (hst : St l K w) (hM : l.length = 0) :
    Calls Tryz.prog 261 #[.agg #[s, k], .func (.func g) #[] caps] w (CbPost St (l ++ allCh n.sets []) K w) := by
  have H := Lib.hid h
  have Hst := Lib.hid hst
  have Hcb := Lib.hid hcb
  have Hf := Lib.hid hf
  have Hfit := Lib.hid hfit
  have hg2 := Tryz.call295
  have hlt : Hid (∀ k, K k → k < w.heap.size) := Lib.hid (fun k hk => (hcb.lt hst hk).2)
  clear h hst hcb hf hfit
  obtain ⟨hx, hi⟩ := ExIn.start (s := s) (k := k) (fv := .func (.func g) #[] caps) (ev := .func (.func 295) #[] #[.pointer (some ⟨w.heap.size, 0, none⟩), .pointer (some ⟨w.heap.size + 1, 0, none⟩), .pointer (some ⟨w.heap.size + 1 + 1, 0, none⟩)]) (T1 := 27) (T2 := 298) (n := n) Hcb.out Hst.out H.out hb0
  have Hx := Lib.hid hx
  have Hi := Lib.hid hi
  clear hx hi
  go_enter Tryz.func261, Tryz.ntmps261
  go_wp2_with fail
  refine Calls.mono (choices_all St b0 _ _ _ g caps s k n Hcb.out hg Hf.out h8 Hfit.out n.sets.length [] l K _ _ 0 (by simp) ⟨by simp, fun i hi => absurd hi (by simp)⟩ (by show l.length + (allCh (n.sets.drop 0) []).length ≤ _; rw [hM]; simp) Hi.out (nilOwn _ _ _ _) (fun h => absurd h (by simp))) ?_
  intro e w1 hp
  have Hp := Lib.hid (hp.from_ext Hx.out)
  clear hp
  obtain rfl : e = .returned (.tuple #[]) := by obtain ⟨K', e, _⟩ := Hp.out; exact e
  go_wp2_with fail
  refine bodyPost_end (results_none rfl _ _ _) rfl ?_
  exact Hp.out
end Go.Proofs.YtfmnkojjkjkdeaaGreatDoor
