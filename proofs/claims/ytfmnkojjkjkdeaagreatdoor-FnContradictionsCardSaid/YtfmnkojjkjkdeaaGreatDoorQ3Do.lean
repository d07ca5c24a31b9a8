/- Texts merged (a claim holds at most sixty files): Do, Dq. -/
import Derived.Test.YtfmnkojjkjkdeaaGreatDoorQ3Dg
import Derived.Test.YtfmnkojjkjkdeaaGreatDoorQ3G
/- Contracts: networks that the layer of solutions draws. -/
namespace Go.Proofs.YtfmnkojjkjkdeaaGreatDoor
set_option linter.unusedVariables false
set_option linter.unusedSimpArgs false
open Go.RowKit
attribute [local go_sem] cell_onto

def DrNetU (b0 g : Nat) (cv : Value) (cn : Nat) (w : World) (e : Ending) (w' : World) : Prop :=
  ∃ (s k : Value) (n : Net), e = .returned (.agg #[s, k]) ∧ Drw b0 g cv cn w w' ∧ n.sets.length ≤ 8 ∧ NetAt w' w.heap.size w'.heap.size s k n
theorem DrNetU.fin {b0 g q cn lo : Nat} {cv s k : Value} {n : Net} {w wz : World} (hd : Drw b0 g cv cn w wz) (hN : NetAt wz lo wz.heap.size s k n) (hq : q < lo) (hwq : w.heap.size ≤ q) (hg : g < w.heap.size) (hf : n.sets.length ≤ 8) :
    DrNetU b0 g cv cn w (.returned (.agg #[s, k])) ((wz.setCell ⟨q, 0, none⟩ s).setCell ⟨q, 1, none⟩ k) :=
  ⟨s, k, n, rfl, (hd.setCell (p := ⟨q, 0, none⟩) hwq (by show g < q; omega) _).setCell (p := ⟨q, 1, none⟩) hwq (by show g < q; omega) _, hf, (net_store hN hq).wide (by omega) (Nat.le_refl _)⟩
theorem three_net {w : World} {lo g1 g2 g3 : Nat} {s0 s1 : Value} {l0 l1 : List Sp} {x : Int} (h0 : Spans w lo w.heap.size s0 l0) (h1 : Spans w lo w.heap.size s1 l1) (h2 : Boxed w g1 [.int .i64 1000, .int .i64 x]) (h3 : Boxed w g2 [s0, s1, .slice (some ⟨g1, 0, none⟩) 1 1])
    (h4 : Boxed w g3 [.int .i64 0, .int .i64 1, .int .i64 10, .int .i64 12]) (e1 : lo ≤ g1) (e2 : lo ≤ g2) (e3 : lo ≤ g3) : NetAt w lo w.heap.size (.slice (some ⟨g2, 0, none⟩) 3 3) (.slice (some ⟨g3, 0, none⟩) 1 1) ⟨[l0, l1, [⟨1000, x⟩]], [⟨0, 1, 10, 12⟩]⟩ := by
  refine ⟨⟨fun i => if i = 0 then s0 else if i = 1 then s1 else .slice (some ⟨g1, 0, none⟩) 1 1, ?_, ?_⟩, ?_⟩
  · exact boxRow h3 (by show 3 ≤ 4096; omega) (fun i hi => by
      have hi' : i < 3 := hi
      match i, hi' with
      | 0, _ => rfl
      | 1, _ => rfl
      | 2, _ => rfl) lo e2
  · intro i hi
    have hi' : i < 3 := hi
    match i, hi' with
    | 0, _ => exact h0
    | 1, _ => exact h1
    | 2, _ => exact boxRow h2 (by show 1 ≤ 4096; omega) (fun i hi => by
        have hi' : i < 2 := hi
        match i, hi' with
        | 0, _ => rfl
        | 1, _ => rfl) lo e1
  · exact boxRow h4 (by show 1 ≤ 4096; omega) (fun i hi => by
      have hi' : i < 4 := hi
      match i, hi' with
      | 0, _ => rfl
      | 1, _ => rfl
      | 2, _ => rfl
      | 3, _ => rfl) lo e3
def DNetXX (w : World) (e : Ending) (w' : World) : Prop := ∃ (s k : Value) (n : Net) (x y : Int), e = .returned (.tuple #[.agg #[s, k], .int .i64 x, .int .i64 y]) ∧ Ext w w' ∧ NetAt w' w.heap.size w'.heap.size s k n
end Go.Proofs.YtfmnkojjkjkdeaaGreatDoor

/- Contracts: a day that is drawn; what FixDay is asked about. -/
namespace Go.Proofs.YtfmnkojjkjkdeaaGreatDoor
set_option linter.unusedVariables false
set_option linter.unusedSimpArgs false
open Go.RowKit
attribute [local go_sem] cell_onto

set_option maxRecDepth 100000 in
set_option maxHeartbeats 2000000 in
theorem spec_l01DrawDay (b0 g cn : Nat) (cv : Value) (w : World) (h : Src b0 g cv cn w) : Calls Tryz.prog 145 #[.pointer (some ⟨g, 0, none⟩)] w (DrNum b0 g cv cn (fun _ => True) w) := by
  have hg := h.lt
  have Hs := Lib.hid h
  clear h
  go_enter Tryz.func145, Tryz.ntmps145
  go_wp2_with fail
  refine Calls.mono (spec_l01Next _ _ cn _ 16 _ Hs.out) ?_
  rintro e w2 ⟨r, rfl, -, hd2⟩
  have Hd2 := Lib.hid hd2
  have hz2 := hd2.size
  clear hd2
  by_cases z0 : r = 0
  · subst z0
    have hpk := box_pick (b0 := b0) (g := g) (cn := cn) (cv := cv) [-1, 0, 1, 2, 730498, 730499, 730500] (Boxed.new w2 [.int .i64 (-1), .int .i64 0, .int .i64 1, .int .i64 2, .int .i64 730498, .int .i64 730499, .int .i64 730500] 2) (by simp) (by omega)
    have Hpk := Lib.hid hpk
    clear hpk
    go_wp2_with fail
    refine Calls.mono (spec_l01Pick _ _ cn _ _ [-1, 0, 1, 2, 730498, 730499, 730500] _ (Hd2.out.alloc _).src Hpk.out.1 (by simp) Hpk.out.2) ?_
    rintro e w5 ⟨x, rfl, -, hd5⟩
    have Hd5 := Lib.hid ((Hd2.out.alloc _).trans hd5)
    clear hd5
    go_wp2_with fail
    go_ret
    exact ⟨x, rfl, trivial, Hd5.out⟩
  · have z0' : (r == 0) = false := by simpa using z0
    go_wp2_with fail
    refine Calls.mono (spec_l01Next _ _ cn _ _ _ Hd2.out.src) ?_
    rintro e w3 ⟨x, rfl, -, hd3⟩
    have Hd3 := Lib.hid (Hd2.out.trans hd3)
    clear hd3
    go_wp2_with fail
    go_ret
    exact ⟨x, rfl, trivial, Hd3.out⟩
theorem DrwR.trans {b0 g q cn : Nat} {cv : Value} {w w' w'' : World} (h : DrwR b0 g q cv cn w w') (k : DrwR b0 g q cv cn w' w'') : DrwR b0 g q cv cn w w'' :=
  ⟨h.off.trans k.off, k.src⟩
theorem DrwR.keep3 {b0 g q cn p r i : Nat} {cv a b d : Value} {w w' : World} (h : DrwR b0 g q cv cn w w') (hb : p < w.heap.size) (hg : p ≠ g) (hq : p ≠ q) (c0 : w.cell? ⟨p, 0, none⟩ = some a) (c1 : w.cell? ⟨p, 1, none⟩ = some b)
    (hr : r < w.heap.size) (hrg : r ≠ g) (hrq : r ≠ q) (c2 : w.cell? ⟨r, i, none⟩ = some d) :
    DrwR b0 g q cv cn w w' ∧ w'.cell? ⟨p, 0, none⟩ = some a ∧ w'.cell? ⟨p, 1, none⟩ = some b ∧ w'.cell? ⟨r, i, none⟩ = some d := ⟨h, (h.cell hb hg hq).trans c0, (h.cell hb hg hq).trans c1, (h.cell hr hrg hrq).trans c2⟩
end Go.Proofs.YtfmnkojjkjkdeaaGreatDoor
