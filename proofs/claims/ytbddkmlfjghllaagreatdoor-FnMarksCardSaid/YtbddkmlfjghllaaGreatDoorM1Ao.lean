/- Contracts: what the law on marks is asked about. (Printed by genAo.py.) -/
import Derived.Test.YtbddkmlfjghllaaGreatDoorT1Am
import Derived.Test.YtbddkmlfjghllaaGreatDoorT1S
import Derived.Deep.RegionLaw
namespace Go.Proofs.YtbddkmlfjghllaaGreatDoor
set_option linter.unusedVariables false
set_option linter.unusedSimpArgs false
open Go.RowKit
attribute [local go_sem] cell_onto

def rnL : List ByteArray := [⟨#[]⟩, ⟨#[76, 105, 111, 110]⟩, ⟨#[108, 105, 111, 110]⟩]
theorem rn_size : ∀ q, q < 3 → (strAt rnL q).size ≤ 12 := fun q h => by
  have h5 : q = 0 ∨ q = 1 ∨ q = 2 := by omega
  rcases h5 with rfl | rfl | rfl <;> decide
theorem rn_at2 {q : Nat} (h : q < 3) (h' : q < ([.string ⟨#[]⟩, .string ⟨#[76, 105, 111, 110]⟩, .string ⟨#[108, 105, 111, 110]⟩] : List Value).length) : ([.string ⟨#[]⟩, .string ⟨#[76, 105, 111, 110]⟩, .string ⟨#[108, 105, 111, 110]⟩] : List Value)[q]'h' = .string (strAt rnL q) := by
  have h5 : q = 0 ∨ q = 1 ∨ q = 2 := by omega
  rcases h5 with rfl | rfl | rfl <;> rfl
theorem pick_box {b0 g cn gb : Nat} {cv : Value} {w : World} {l : List Int} (h : Src b0 g cv cn w) (hB : Boxed w gb (l.map (Value.int .i64))) (hl : l.length ≤ 4096) (hne : gb ≠ g) (h0 : 0 < l.length) :
    Calls Tryz.prog 40 #[.pointer (some ⟨g, 0, none⟩), .slice (some ⟨gb, 0, none⟩) l.length l.length] w (DrNum b0 g cv cn (fun r => r ∈ l) w) := by
  have hp := box_pick (b0 := b0) (g := g) (cn := cn) (cv := cv) l hB hl hne
  exact spec_l01Pick b0 g cn cv _ l w h hp.1 h0 hp.2
def DMkS (w : World) (e : Ending) (w' : World) : Prop := ∃ A c m s, e = .returned (.tuple #[.slice A m.length c, .string s]) ∧ Ext w w' ∧ m.length ≤ 41 ∧ NmOk m ∧ s.size ≤ 12 ∧ Hid (Nsps w' 0 w'.heap.size (.slice A m.length c) m)
def DMkX (w : World) (e : Ending) (w' : World) : Prop := ∃ A c m n, e = .returned (.tuple #[.slice A m.length c, .int .i64 n]) ∧ Ext w w' ∧ m.length ≤ 41 ∧ NmOk m ∧ Hid (Nsps w' 0 w'.heap.size (.slice A m.length c) m)
def DMkR (w : World) (e : Ending) (w' : World) : Prop := ∃ A c m s n a, e = .returned (.tuple #[.slice A m.length c, .string s, .int .i64 n, .int .i64 a]) ∧ Ext w w' ∧ m.length ≤ 41 ∧ NmOk m ∧ s.size ≤ 12 ∧ Hid (Nsps w' 0 w'.heap.size (.slice A m.length c) m)
set_option maxHeartbeats 2000000 in
theorem spec_DrawMarkDays (cn : Nat) (cv : Value) (w : World) (h : Bytes w 0 w.heap.size cv cn) : Calls Tryz.prog 10 #[cv] w (DMkS w) := by
  obtain ⟨A, c, rfl, _⟩ := h.len
  have H := Lib.hid h
  clear h
  go_enter Tryz.func10, Tryz.ntmps10
  go_wp2_with fail
  refine Calls.mono (spec_l01From cn _ _ H.out) ?_
  rintro e w1 ⟨rfl, hx1, hs1⟩
  have hgl := hs1.lt
  have Hs1 := Lib.hid hs1
  clear hs1
  go_wp2_with fail
  refine Calls.mono (spec_l16Draw _ _ cn _ _ Hs1.out) ?_
  rintro e w2 ⟨u, m, rfl, hd2, hl2, hn2, hr2⟩
  obtain ⟨A2, c2, rfl⟩ := ownsRow_len hr2
  have Hr2 : Hid (RowNsp w2 w1.heap.size 88 (.slice A2 m.length c2) m) := Lib.hid hr2
  have Hn2 := Lib.hid hn2
  have Hd2 := Lib.hid hd2
  clear hd2 hr2 hn2
  go_wp2_with fail
  refine Calls.mono (spec_l16DrawName _ _ cn _ _ Hd2.out.src) ?_
  rintro e w3 ⟨x, rfl, hxs, hd3⟩
  have Hd3 := Lib.hid (Hd2.out.trans hd3)
  have Hr3 : Hid (RowNsp w3 w1.heap.size 88 (.slice A2 m.length c2) m) := Lib.hid (ownsRow_drw Hr2.out hd3 hgl)
  clear hd3
  go_wp2_with fail
  go_ret2
  exact ⟨A2, c2, m, x, rfl, Hd3.out.old hx1 (Nat.le_refl _), hl2, Hn2.out, hxs, Lib.hid Hr3.out.rows⟩
set_option maxHeartbeats 2000000 in
theorem spec_DrawMarksOn (cn : Nat) (cv : Value) (w : World) (h : Bytes w 0 w.heap.size cv cn) : Calls Tryz.prog 13 #[cv] w (DMkX w) := by
  obtain ⟨A, c, rfl, _⟩ := h.len
  have H := Lib.hid h
  clear h
  go_enter Tryz.func13, Tryz.ntmps13
  go_wp2_with fail
  refine Calls.mono (spec_l01From cn _ _ H.out) ?_
  rintro e w1 ⟨rfl, hx1, hs1⟩
  have hgl := hs1.lt
  have Hs1 := Lib.hid hs1
  clear hs1
  go_wp2_with fail
  refine Calls.mono (spec_l16Draw _ _ cn _ _ Hs1.out) ?_
  rintro e w2 ⟨u, m, rfl, hd2, hl2, hn2, hr2⟩
  obtain ⟨A2, c2, rfl⟩ := ownsRow_len hr2
  have Hr2 : Hid (RowNsp w2 w1.heap.size 88 (.slice A2 m.length c2) m) := Lib.hid hr2
  have Hn2 := Lib.hid hn2
  have Hd2 := Lib.hid hd2
  clear hd2 hr2 hn2
  go_wp2_with fail
  refine Calls.mono (spec_l07DrawDay _ _ cn _ _ Hd2.out.src) ?_
  rintro e w3 ⟨x, rfl, -, hd3⟩
  have Hd3 := Lib.hid (Hd2.out.trans hd3)
  have Hr3 : Hid (RowNsp w3 w1.heap.size 88 (.slice A2 m.length c2) m) := Lib.hid (ownsRow_drw Hr2.out hd3 hgl)
  clear hd3
  go_wp2_with fail
  go_ret2
  exact ⟨A2, c2, m, x, rfl, Hd3.out.old hx1 (Nat.le_refl _), hl2, Hn2.out, Lib.hid Hr3.out.rows⟩
set_option maxRecDepth 100000 in
set_option maxHeartbeats 16000000 in
theorem spec_DrawRecordUse (cn : Nat) (cv : Value) (w : World) (h : Bytes w 0 w.heap.size cv cn) : Calls Tryz.prog 7 #[cv] w (DMkR w) := by
  obtain ⟨A, c, rfl, _⟩ := h.len
  have H := Lib.hid h
  clear h
  go_enter Tryz.func7, Tryz.ntmps7
  go_wp2_with fail
  refine Calls.mono (spec_l01From cn _ _ H.out) ?_
  rintro e w1 ⟨rfl, hx1, hs1⟩
  have hgl := hs1.lt
  have Hs1 := Lib.hid hs1
  clear hs1
  go_wp2_with fail
  refine Calls.mono (spec_l16Draw _ _ cn _ _ Hs1.out) ?_
  rintro e w2 ⟨u, m, rfl, hd2, hl2, hn2, hr2⟩
  obtain ⟨A2, c2, rfl⟩ := ownsRow_len hr2
  have Hr2 : Hid (RowNsp w2 w1.heap.size 88 (.slice A2 m.length c2) m) := Lib.hid hr2
  have Hn2 := Lib.hid hn2
  have Hd2 := Lib.hid hd2
  clear hd2 hr2 hn2
  go_wp2_with fail
  refine Calls.mono (spec_l01Next _ _ cn _ 30 _ Hd2.out.src) ?_
  rintro e w3 ⟨r3, rfl, -, hd3⟩
  have Hd3 := Lib.hid (Hd2.out.trans hd3)
  have Hr3 : Hid (RowNsp w3 w1.heap.size 88 (.slice A2 m.length c2) m) := Lib.hid (ownsRow_drw Hr2.out hd3 hgl)
  have hz3 := Hd3.out.size
  clear hd3
  by_cases z0 : r3 = 0
  · subst z0
    have n0 : w3.heap.size ≠ w.heap.size := by omega
    have n0' : w3.heap.size + 1 ≠ w.heap.size := by omega
    have BX := Lib.hid (fun (g0 : Nat) (W0 W : World) (h2 : W0.heap.size = g0) (hX : Ext (W0.alloc (.cells #[.string ⟨#[]⟩, .string ⟨#[76, 105, 111, 110]⟩, .string ⟨#[108, 105, 111, 110]⟩] 9)) W) => show Boxed W g0 (rnL.map Value.string) from by
      subst h2
      exact (Boxed.new W0 [.string ⟨#[]⟩, .string ⟨#[76, 105, 111, 110]⟩, .string ⟨#[108, 105, 111, 110]⟩] 9).ext hX)
    have IX := Lib.hid (fun (g0 : Nat) (W0 W : World) (h2 : W0.heap.size = g0) (hX : Ext (W0.alloc (.cells #[.int .i64 (-1), .int .i64 0, .int .i64 10000, .int .i64 10001] 2)) W) => show Boxed W g0 (([-1, 0, 10000, 10001] : List Int).map (Value.int .i64)) from by
      subst h2
      exact (Boxed.new W0 [.int .i64 (-1), .int .i64 0, .int .i64 10000, .int .i64 10001] 2).ext hX)
    go_wp2_with fail
    go_region_law (first
      | (go_simp; go_at_call 38; refine Calls.mono (spec_l01Next _ _ cn _ 3 _ (Hd3.out.ext (by repeat (first | exact Ext.refl _ | assumption | refine Ext.alloc ?_ _ | refine Ext.drew ?_ | refine Ext.drewN ?_ _ | refine Ext.setCell ?_ (by first | (simp; done) | (simp; omega) | omega) _ | refine Ext.trans ?_ (by assumption)))).src) ?_; rintro e w5 ⟨r5, rfl, hb5, hd5⟩; obtain ⟨q5, rfl⟩ := Int.eq_ofNat_of_zero_le hb5.1; have hq5 : q5 < 3 := (by have := hb5.2.1 (by omega); omega); have Hd5 := Lib.hid ((Hd3.out.ext (by repeat (first | exact Ext.refl _ | assumption | refine Ext.alloc ?_ _ | refine Ext.drew ?_ | refine Ext.drewN ?_ _ | refine Ext.setCell ?_ (by first | (simp; done) | (simp; omega) | omega) _ | refine Ext.trans ?_ (by assumption)))).trans hd5); have KA := Lib.hid (fun (bx : Nat) (cs : List Value) (hB : Boxed _ bx cs) (hne : bx ≠ w.heap.size) => hB.drw hd5 hne); have hS2 := rn_at2 hq5; have q50 : (0 : Int) ≤ (q5 : Int) := (by omega); have q58 : (q5 : Int) < 3 := (by omega); have hz5 := Hd5.out.size; have n1 : w5.heap.size ≠ w.heap.size := (by omega); have n1' : w5.heap.size + 1 ≠ w.heap.size := (by omega); have Hr5 := Lib.hid (ownsRow_drw (row_ext Hr3.out (by repeat (first | exact Ext.refl _ | assumption | refine Ext.alloc ?_ _ | refine Ext.drew ?_ | refine Ext.drewN ?_ _ | refine Ext.setCell ?_ (by first | (simp; done) | (simp; omega) | omega) _ | refine Ext.trans ?_ (by assumption)))) hd5 hgl); (first | (refine (have hB1 : Boxed w5 (w3.heap.size) (rnL.map Value.string) := ?_; ?_); (refine KA.out _ _ (BX.out (w3.heap.size) w3 _ rfl ?_) n0 <;> ((repeat (first | exact Ext.refl _ | assumption | with_reducible refine Ext.drew ?_ | with_reducible refine Ext.drewN ?_ _ | with_reducible refine Ext.alloc ?_ _ | refine Ext.trans ?_ (by assumption))); done))) | (refine (have hB1 : Boxed w5 (w3.heap.size + 1) (rnL.map Value.string) := ?_; ?_); (refine KA.out _ _ (BX.out (w3.heap.size + 1) (w3.alloc (.cells #[.int .i64 (-1), .int .i64 0, .int .i64 10000, .int .i64 10001] 2)) _ (World.size_alloc _ _) ?_) n0' <;> ((repeat (first | exact Ext.refl _ | assumption | with_reducible refine Ext.drew ?_ | with_reducible refine Ext.drewN ?_ _ | with_reducible refine Ext.alloc ?_ _ | refine Ext.trans ?_ (by assumption))); done))) | skip); (try (have cS1 := box_str (S := rnL) hB1 hq5; have cL1 := hB1.1; clear hB1)); clear hd5 hb5)
      | (go_simp; go_at_call 39; refine Calls.mono (spec_l07DrawDay _ _ cn _ _ (Hd5.out.ext (by repeat (first | exact Ext.refl _ | assumption | refine Ext.alloc ?_ _ | refine Ext.drew ?_ | refine Ext.drewN ?_ _ | refine Ext.setCell ?_ (by first | (simp; done) | (simp; omega) | omega) _ | refine Ext.trans ?_ (by assumption)))).src) ?_; rintro e w6 ⟨d6, rfl, -, hd6⟩; have Hd6 := Lib.hid ((Hd5.out.ext (by repeat (first | exact Ext.refl _ | assumption | refine Ext.alloc ?_ _ | refine Ext.drew ?_ | refine Ext.drewN ?_ _ | refine Ext.setCell ?_ (by first | (simp; done) | (simp; omega) | omega) _ | refine Ext.trans ?_ (by assumption)))).trans hd6); have KB := Lib.hid (fun (bx : Nat) (cs : List Value) (hB : Boxed _ bx cs) (hne : bx ≠ w.heap.size) => hB.drw hd6 hne); have hz6 := Hd6.out.size; have n2 : w6.heap.size ≠ w.heap.size := (by omega); have n2' : w6.heap.size + 1 ≠ w.heap.size := (by omega); have Hr6 := Lib.hid (ownsRow_drw (row_ext Hr5.out (by repeat (first | exact Ext.refl _ | assumption | refine Ext.alloc ?_ _ | refine Ext.drew ?_ | refine Ext.drewN ?_ _ | refine Ext.setCell ?_ (by first | (simp; done) | (simp; omega) | omega) _ | refine Ext.trans ?_ (by assumption)))) hd6 hgl); (first | (refine (have hB2 : Boxed w6 (w3.heap.size) (rnL.map Value.string) := ?_; ?_); (refine KB.out _ _ (Boxed.ext (KA.out _ _ (BX.out (w3.heap.size) w3 _ rfl ?_) n0) ?_) n0 <;> ((repeat (first | exact Ext.refl _ | assumption | with_reducible refine Ext.drew ?_ | with_reducible refine Ext.drewN ?_ _ | with_reducible refine Ext.alloc ?_ _ | refine Ext.trans ?_ (by assumption))); done))) | (refine (have hB2 : Boxed w6 (w3.heap.size + 1) (rnL.map Value.string) := ?_; ?_); (refine KB.out _ _ (Boxed.ext (KA.out _ _ (BX.out (w3.heap.size + 1) (w3.alloc (.cells #[.int .i64 (-1), .int .i64 0, .int .i64 10000, .int .i64 10001] 2)) _ (World.size_alloc _ _) ?_) n0') ?_) n0' <;> ((repeat (first | exact Ext.refl _ | assumption | with_reducible refine Ext.drew ?_ | with_reducible refine Ext.drewN ?_ _ | with_reducible refine Ext.alloc ?_ _ | refine Ext.trans ?_ (by assumption))); done))) | (refine (have hB2 : Boxed w6 (w5.heap.size) (rnL.map Value.string) := ?_; ?_); (refine KB.out _ _ (BX.out (w5.heap.size) w5 _ rfl ?_) n1 <;> ((repeat (first | exact Ext.refl _ | assumption | with_reducible refine Ext.drew ?_ | with_reducible refine Ext.drewN ?_ _ | with_reducible refine Ext.alloc ?_ _ | refine Ext.trans ?_ (by assumption))); done))) | (refine (have hB2 : Boxed w6 (w5.heap.size + 1) (rnL.map Value.string) := ?_; ?_); (refine KB.out _ _ (BX.out (w5.heap.size + 1) (w5.alloc (.cells #[.int .i64 (-1), .int .i64 0, .int .i64 10000, .int .i64 10001] 2)) _ (World.size_alloc _ _) ?_) n1' <;> ((repeat (first | exact Ext.refl _ | assumption | with_reducible refine Ext.drew ?_ | with_reducible refine Ext.drewN ?_ _ | with_reducible refine Ext.alloc ?_ _ | refine Ext.trans ?_ (by assumption))); done))) | skip); (try (have cS2 := box_str (S := rnL) hB2 hq5; have cL2 := hB2.1; clear hB2)); clear hd6)
      | (go_simp; go_at_call 40; refine Calls.mono (pick_box (l := [-1, 0, 10000, 10001]) (Hd6.out.ext (by repeat (first | exact Ext.refl _ | assumption | refine Ext.alloc ?_ _ | refine Ext.drew ?_ | refine Ext.drewN ?_ _ | refine Ext.setCell ?_ (by first | (simp; done) | (simp; omega) | omega) _ | refine Ext.trans ?_ (by assumption)))).src ?_ (by simp) ?_ (by simp)) ?_; (first | (refine Boxed.ext (KB.out _ _ (Boxed.ext (KA.out _ _ (IX.out (w3.heap.size) w3 _ rfl ?_) n0) ?_) n0) ?_ <;> ((repeat (first | exact Ext.refl _ | assumption | with_reducible refine Ext.drew ?_ | with_reducible refine Ext.drewN ?_ _ | with_reducible refine Ext.alloc ?_ _ | refine Ext.trans ?_ (by assumption))); done)) | (refine Boxed.ext (KB.out _ _ (Boxed.ext (KA.out _ _ (IX.out (w3.heap.size + 1) (w3.alloc (.cells #[.string ⟨#[]⟩, .string ⟨#[76, 105, 111, 110]⟩, .string ⟨#[108, 105, 111, 110]⟩] 9)) _ (World.size_alloc _ _) ?_) n0') ?_) n0') ?_ <;> ((repeat (first | exact Ext.refl _ | assumption | with_reducible refine Ext.drew ?_ | with_reducible refine Ext.drewN ?_ _ | with_reducible refine Ext.alloc ?_ _ | refine Ext.trans ?_ (by assumption))); done)) | (refine Boxed.ext (KB.out _ _ (IX.out (w5.heap.size) w5 _ rfl ?_) n1) ?_ <;> ((repeat (first | exact Ext.refl _ | assumption | with_reducible refine Ext.drew ?_ | with_reducible refine Ext.drewN ?_ _ | with_reducible refine Ext.alloc ?_ _ | refine Ext.trans ?_ (by assumption))); done)) | (refine Boxed.ext (KB.out _ _ (IX.out (w5.heap.size + 1) (w5.alloc (.cells #[.string ⟨#[]⟩, .string ⟨#[76, 105, 111, 110]⟩, .string ⟨#[108, 105, 111, 110]⟩] 9)) _ (World.size_alloc _ _) ?_) n1') ?_ <;> ((repeat (first | exact Ext.refl _ | assumption | with_reducible refine Ext.drew ?_ | with_reducible refine Ext.drewN ?_ _ | with_reducible refine Ext.alloc ?_ _ | refine Ext.trans ?_ (by assumption))); done)) | (refine IX.out (w6.heap.size) w6 _ rfl ?_ <;> ((repeat (first | exact Ext.refl _ | assumption | with_reducible refine Ext.drew ?_ | with_reducible refine Ext.drewN ?_ _ | with_reducible refine Ext.alloc ?_ _ | refine Ext.trans ?_ (by assumption))); done)) | (refine IX.out (w6.heap.size + 1) (w6.alloc (.cells #[.string ⟨#[]⟩, .string ⟨#[76, 105, 111, 110]⟩, .string ⟨#[108, 105, 111, 110]⟩] 9)) _ (World.size_alloc _ _) ?_ <;> ((repeat (first | exact Ext.refl _ | assumption | with_reducible refine Ext.drew ?_ | with_reducible refine Ext.drewN ?_ _ | with_reducible refine Ext.alloc ?_ _ | refine Ext.trans ?_ (by assumption))); done))); (first | exact n0 | exact n0' | exact n1 | exact n1' | exact n2 | exact n2'); rintro e w7 ⟨p7, rfl, -, hd7⟩; have Hd7 := Lib.hid ((Hd6.out.ext (by repeat (first | exact Ext.refl _ | assumption | refine Ext.alloc ?_ _ | refine Ext.drew ?_ | refine Ext.drewN ?_ _ | refine Ext.setCell ?_ (by first | (simp; done) | (simp; omega) | omega) _ | refine Ext.trans ?_ (by assumption)))).trans hd7); have KC := Lib.hid (fun (bx : Nat) (cs : List Value) (hB : Boxed _ bx cs) (hne : bx ≠ w.heap.size) => hB.drw hd7 hne); have Hr7 := Lib.hid (ownsRow_drw (row_ext Hr6.out (by repeat (first | exact Ext.refl _ | assumption | refine Ext.alloc ?_ _ | refine Ext.drew ?_ | refine Ext.drewN ?_ _ | refine Ext.setCell ?_ (by first | (simp; done) | (simp; omega) | omega) _ | refine Ext.trans ?_ (by assumption)))) hd7 hgl); (first | (refine (have hB3 : Boxed w7 (w3.heap.size) (rnL.map Value.string) := ?_; ?_); (refine KC.out _ _ (Boxed.ext (KB.out _ _ (Boxed.ext (KA.out _ _ (BX.out (w3.heap.size) w3 _ rfl ?_) n0) ?_) n0) ?_) n0 <;> ((repeat (first | exact Ext.refl _ | assumption | with_reducible refine Ext.drew ?_ | with_reducible refine Ext.drewN ?_ _ | with_reducible refine Ext.alloc ?_ _ | refine Ext.trans ?_ (by assumption))); done))) | (refine (have hB3 : Boxed w7 (w3.heap.size + 1) (rnL.map Value.string) := ?_; ?_); (refine KC.out _ _ (Boxed.ext (KB.out _ _ (Boxed.ext (KA.out _ _ (BX.out (w3.heap.size + 1) (w3.alloc (.cells #[.int .i64 (-1), .int .i64 0, .int .i64 10000, .int .i64 10001] 2)) _ (World.size_alloc _ _) ?_) n0') ?_) n0') ?_) n0' <;> ((repeat (first | exact Ext.refl _ | assumption | with_reducible refine Ext.drew ?_ | with_reducible refine Ext.drewN ?_ _ | with_reducible refine Ext.alloc ?_ _ | refine Ext.trans ?_ (by assumption))); done))) | (refine (have hB3 : Boxed w7 (w5.heap.size) (rnL.map Value.string) := ?_; ?_); (refine KC.out _ _ (Boxed.ext (KB.out _ _ (BX.out (w5.heap.size) w5 _ rfl ?_) n1) ?_) n1 <;> ((repeat (first | exact Ext.refl _ | assumption | with_reducible refine Ext.drew ?_ | with_reducible refine Ext.drewN ?_ _ | with_reducible refine Ext.alloc ?_ _ | refine Ext.trans ?_ (by assumption))); done))) | (refine (have hB3 : Boxed w7 (w5.heap.size + 1) (rnL.map Value.string) := ?_; ?_); (refine KC.out _ _ (Boxed.ext (KB.out _ _ (BX.out (w5.heap.size + 1) (w5.alloc (.cells #[.int .i64 (-1), .int .i64 0, .int .i64 10000, .int .i64 10001] 2)) _ (World.size_alloc _ _) ?_) n1') ?_) n1' <;> ((repeat (first | exact Ext.refl _ | assumption | with_reducible refine Ext.drew ?_ | with_reducible refine Ext.drewN ?_ _ | with_reducible refine Ext.alloc ?_ _ | refine Ext.trans ?_ (by assumption))); done))) | (refine (have hB3 : Boxed w7 (w6.heap.size) (rnL.map Value.string) := ?_; ?_); (refine KC.out _ _ (BX.out (w6.heap.size) w6 _ rfl ?_) n2 <;> ((repeat (first | exact Ext.refl _ | assumption | with_reducible refine Ext.drew ?_ | with_reducible refine Ext.drewN ?_ _ | with_reducible refine Ext.alloc ?_ _ | refine Ext.trans ?_ (by assumption))); done))) | (refine (have hB3 : Boxed w7 (w6.heap.size + 1) (rnL.map Value.string) := ?_; ?_); (refine KC.out _ _ (BX.out (w6.heap.size + 1) (w6.alloc (.cells #[.int .i64 (-1), .int .i64 0, .int .i64 10000, .int .i64 10001] 2)) _ (World.size_alloc _ _) ?_) n2' <;> ((repeat (first | exact Ext.refl _ | assumption | with_reducible refine Ext.drew ?_ | with_reducible refine Ext.drewN ?_ _ | with_reducible refine Ext.alloc ?_ _ | refine Ext.trans ?_ (by assumption))); done))) | skip); (try (have cS3 := box_str (S := rnL) hB3 hq5; have cL3 := hB3.1; clear hB3)); clear hd7))
    all_goals
      go_wp2_with fail
      refine bodyPost_ret (v := .tuple #[.slice A2 m.length c2, .string (strAt rnL q5), .int .i64 d6, .int .i64 p7]) (by simp [results, Tryz.results7, go_sem, *]) rfl ?_
      exact ⟨A2, c2, m, _, d6, p7, rfl, (Hd7.out.ext (by repeat (first | exact Ext.refl _ | assumption | refine Ext.alloc ?_ _ | refine Ext.drew ?_ | refine Ext.drewN ?_ _ | refine Ext.setCell ?_ (by first | (simp; done) | (simp; omega) | omega) _ | refine Ext.trans ?_ (by assumption)))).old hx1 (Nat.le_refl _), hl2, Hn2.out, rn_size q5 hq5, Lib.hid (RowNsp.rows (row_ext Hr7.out (by repeat (first | exact Ext.refl _ | assumption | refine Ext.alloc ?_ _ | refine Ext.drew ?_ | refine Ext.drewN ?_ _ | refine Ext.setCell ?_ (by first | (simp; done) | (simp; omega) | omega) _ | refine Ext.trans ?_ (by assumption)))))⟩
  · have z0' : (r3 == 0) = false := by simpa using z0
    go_wp2_with fail
    refine Calls.mono (spec_l16DrawName _ _ cn _ _ Hd3.out.src) ?_
    rintro e w4 ⟨s, rfl, hss, hd4⟩
    have Hd4 := Lib.hid (Hd3.out.trans hd4)
    have Hr4 := Lib.hid (ownsRow_drw Hr3.out hd4 hgl)
    clear hd4
    go_wp2_with fail
    refine Calls.mono (spec_l07DrawDay _ _ cn _ _ Hd4.out.src) ?_
    rintro e w5 ⟨d5, rfl, -, hd5⟩
    have Hd5 := Lib.hid (Hd4.out.trans hd5)
    have Hr5 := Lib.hid (ownsRow_drw Hr4.out hd5 hgl)
    clear hd5
    go_wp2_with fail
    refine Calls.mono (spec_l01Next _ _ cn _ 400 _ Hd5.out.src) ?_
    rintro e w6 ⟨r6, rfl, -, hd6⟩
    have Hd6 := Lib.hid (Hd5.out.trans hd6)
    have Hr6 := Lib.hid (ownsRow_drw Hr5.out hd6 hgl)
    have hz6 := Hd6.out.size
    clear hd6
    go_wp2_with fail
    have hpk := pick_box (l := [0, 1, r6]) (Hd6.out.alloc (.cells #[.int .i64 0, .int .i64 1, .int .i64 r6] 2)).src (Boxed.new w6 [.int .i64 0, .int .i64 1, .int .i64 r6] 2) (by simp) (by omega) (by simp)
    refine Calls.mono hpk ?_
    clear hpk
    rintro e w7 ⟨p7, rfl, -, hd7⟩
    have Hd7 := Lib.hid ((Hd6.out.alloc _).trans hd7)
    have Hr7 := Lib.hid (ownsRow_drw (row_ext Hr6.out ((Ext.refl _).alloc _)) hd7 hgl)
    clear hd7
    go_wp2_with fail
    refine bodyPost_ret (v := .tuple #[.slice A2 m.length c2, .string s, .int .i64 d5, .int .i64 p7]) (by simp [results, Tryz.results7, go_sem, *]) rfl ?_
    exact ⟨A2, c2, m, s, d5, p7, rfl, Hd7.out.old hx1 (Nat.le_refl _), hl2, Hn2.out, hss, Lib.hid (RowNsp.rows Hr7.out)⟩
end Go.Proofs.YtbddkmlfjghllaaGreatDoor
