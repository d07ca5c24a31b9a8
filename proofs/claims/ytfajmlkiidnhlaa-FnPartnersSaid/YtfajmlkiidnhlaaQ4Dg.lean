/- Texts merged (a claim holds at most sixty files): Dg, Dh. -/
import Derived.Test.YtfajmlkiidnhlaaQ4Dd
/- Contracts: networks that are drawn from a code (the layers of networks and of narrowing). -/
namespace Go.Proofs.Ytfajmlkiidnhlaa
set_option linter.unusedVariables false
set_option linter.unusedSimpArgs false
open Go.RowKit
attribute [local go_sem] cell_onto

theorem Bytes.up {w w' : World} {n : Nat} {v : Value} (h : Bytes w 0 w.heap.size v n) (hx : Ext w w') : Bytes w' 0 w'.heap.size v n := by
  obtain ⟨h0, f, h1, h2⟩ := h.ext hx (Nat.le_refl _)
  exact ⟨h0, f, h1.mono (Nat.le_refl _) hx.size, h2⟩
theorem NetAt.drw {b0 g cn lo hi : Nat} {cv s k : Value} {n : Net} {w w' : World} (h : NetAt w lo hi s k n) (hx : Drw b0 g cv cn w w') (hg : g < lo) (hh : hi ≤ w.heap.size) : NetAt w' lo hi s k n :=
  h.off hx.off (fun x h1 _ hh => by have e : x = g := hh; omega) hh
theorem NetAt.wide {lo hi lo' hi' : Nat} {s k : Value} {n : Net} {w : World} (h : NetAt w lo hi s k n) (h1 : lo' ≤ lo) (h2 : hi ≤ hi') : NetAt w lo' hi' s k n := ⟨h.1.mono h1 h2, h.2.mono h1 h2⟩
/-- what a draw of a network out of a code returns -/
def DNet (P : Net → Prop) (w : World) (e : Ending) (w' : World) : Prop :=
  ∃ (s k : Value) (n : Net), e = .returned (.agg #[s, k]) ∧ Ext w w' ∧ Few n ∧ P n ∧ NetAt w' w.heap.size w'.heap.size s k n
/-- .. and one thing more -/
def DNetV (P : Net → Value → Prop) (w : World) (e : Ending) (w' : World) : Prop :=
  ∃ (s k v : Value) (n : Net), e = .returned (.tuple #[.agg #[s, k], v]) ∧ Ext w w' ∧ Few n ∧ P n v ∧ NetAt w' w.heap.size w'.heap.size s k n
/-- .. and two things more -/
def DNetVV (P : Net → Value → Value → Prop) (w : World) (e : Ending) (w' : World) : Prop :=
  ∃ (s k v u : Value) (n : Net), e = .returned (.tuple #[.agg #[s, k], v, u]) ∧ Ext w w' ∧ Few n ∧ P n v u ∧ NetAt w' w.heap.size w'.heap.size s k n
/-- the result's box is written: what was drawn stays -/
theorem net_store {gR lo : Nat} {s k a b : Value} {n : Net} {w : World} (h : NetAt w lo w.heap.size s k n) (hg : gR < lo) : NetAt ((w.setCell ⟨gR, 0, none⟩ a).setCell ⟨gR, 1, none⟩ b) lo ((w.setCell ⟨gR, 0, none⟩ a).setCell ⟨gR, 1, none⟩ b).heap.size s k n := by
  have hO : Off (One gR) w ((w.setCell ⟨gR, 0, none⟩ a).setCell ⟨gR, 1, none⟩ b) := Off.setCell (S := One gR) (p := ⟨gR, 1, none⟩) (Off.setCell (S := One gR) (p := ⟨gR, 0, none⟩) (Off.refl _ _) (.inl rfl) _) (.inl rfl) _
  exact (h.off hO (fun x h1 _ hh => by have e : x = gR := hh; omega) (Nat.le_refl _)).wide (Nat.le_refl _) hO.size
/-! ### the source and one box have turned -/
structure DrwR (b0 g q : Nat) (cv : Value) (cn : Nat) (w w' : World) : Prop where
  off : Off (fun k => k = g ∨ k = q) w w'
  src : Src b0 g cv cn w'
section
variable {b0 g q cn : Nat} {cv : Value} {w w' w'' : World}
theorem DrwR.refl (h : Src b0 g cv cn w) : DrwR b0 g q cv cn w w := ⟨Off.refl _ _, h⟩
theorem DrwR.of (h : Drw b0 g cv cn w w') : DrwR b0 g q cv cn w w' := ⟨h.off.mono (fun _ hk => .inl hk), h.src⟩
theorem DrwR.drw (h : DrwR b0 g q cv cn w w') (k : Drw b0 g cv cn w' w'') : DrwR b0 g q cv cn w w'' := ⟨h.off.trans (k.off.mono (fun _ hk => .inl hk)), k.src⟩
theorem DrwR.ext (h : DrwR b0 g q cv cn w w') (hx : Ext w' w'') : DrwR b0 g q cv cn w w'' := ⟨h.off.trans (Off.of_ext hx), h.src.ext hx⟩
theorem DrwR.alloc (h : DrwR b0 g q cv cn w w') (o : Obj) : DrwR b0 g q cv cn w (w'.alloc o) := h.ext ((Ext.refl _).alloc o)
theorem DrwR.drew (h : DrwR b0 g q cv cn w w') : DrwR b0 g q cv cn w w'.drew := h.ext (Ext.refl _).drew
theorem Src.at_box (h : Src b0 g cv cn w) (hq : q ≠ g) (hb : b0 ≤ q) (i : Nat) (u : Value) : Src b0 g cv cn (w.setCell ⟨q, i, none⟩ u) := by
  obtain ⟨j, s, h1, h2⟩ := h.box
  have hl := h.lt
  have h0 := h.lo
  exact ⟨h.lo, h.code.off (S := One q) (Off.setCell (S := One q) (p := ⟨q, i, none⟩) (Off.refl _ _) (.inl rfl) u) (fun k _ hk hh => by have e : k = q := hh; omega) (by omega), j, s, h1.setOther (p := ⟨q, i, none⟩) (Ne.symm hq) u, h2⟩
theorem DrwR.set (h : DrwR b0 g q cv cn w w') (hq : q ≠ g) (hb : b0 ≤ q) (i : Nat) (u : Value) : DrwR b0 g q cv cn w (w'.setCell ⟨q, i, none⟩ u) :=
  ⟨h.off.setCell (p := ⟨q, i, none⟩) (.inl (.inr rfl)) u, h.src.at_box hq hb i u⟩
theorem DrwR.size (h : DrwR b0 g q cv cn w w') : w.heap.size ≤ w'.heap.size := h.off.size
theorem DrwR.cell (h : DrwR b0 g q cv cn w w') {b o : Nat} (hb : b < w.heap.size) (hg : b ≠ g) (hq : b ≠ q) : w'.cell? ⟨b, o, none⟩ = w.cell? ⟨b, o, none⟩ := h.off.cell (p := ⟨b, o, none⟩) hb (fun hh => hh.elim hg hq)
theorem DrwR.keep2 {p : Nat} {a b : Value} (h : DrwR b0 g q cv cn w w') (hb : p < w.heap.size) (hg : p ≠ g) (hq : p ≠ q) (c0 : w.cell? ⟨p, 0, none⟩ = some a) (c1 : w.cell? ⟨p, 1, none⟩ = some b) :
    DrwR b0 g q cv cn w w' ∧ w'.cell? ⟨p, 0, none⟩ = some a ∧ w'.cell? ⟨p, 1, none⟩ = some b := ⟨h, (h.cell hb hg hq).trans c0, (h.cell hb hg hq).trans c1⟩
theorem DrwR.old {a : World} (h : DrwR b0 g q cv cn w w') (ha : Ext a w) (hg : a.heap.size ≤ g) (hq : a.heap.size ≤ q) : Ext a w' := ha.off h.off (fun k hk hh => by omega)
theorem DrwR.net {lo : Nat} {s k : Value} {n : Net} (h : DrwR b0 g q cv cn w w') (hn : NetAt w lo w.heap.size s k n) (hg : g < lo) (hq : q < lo) : NetAt w' lo w'.heap.size s k n :=
  (hn.off h.off (fun x h1 _ hh => by omega) (Nat.le_refl _)).wide (Nat.le_refl _) h.size
theorem Boxed.drew {p : Nat} {cs : List Value} (h : Boxed w p cs) : Boxed w.drew p cs := h.ext (Ext.refl _).drew
/-- the source, seen from where the code ends -/
theorem Src.low {b1 : Nat} (h : Src b0 g cv cn w) (hb : b1 ≤ g) (hc : Bytes w 0 b1 cv cn) : Src b1 g cv cn w := ⟨hb, hc, h.box⟩
end
set_option maxHeartbeats 1000000 in
theorem spec_DrawEmptyVariables (cn : Nat) (cv : Value) (w : World) (h : Bytes w 0 w.heap.size cv cn) : Calls Try.prog 51 #[cv] w (DNet (fun _ => True) w) := by
  obtain ⟨A, c, rfl, _⟩ := h.len
  have H := Lib.hid h
  clear h
  have Hb := Lib.hid (Boxed.new w [.slice none 0 0, .slice none 0 0] 27)
  go_enter Try.func51, Try.ntmps51
  go_wp2_with fail
  refine Calls.mono (spec_l01From cn _ _ (H.out.up (by repeat (first | exact Ext.refl _ | assumption | refine Ext.alloc ?_ _ | refine Ext.drew ?_ | refine Ext.drewN ?_ _ | refine Ext.setCell ?_ (by first | (simp; done) | (simp; omega) | omega) _ | refine Ext.trans ?_ (by assumption))))) ?_
  rintro e w1 ⟨rfl, hx1, hs1⟩
  rw [World.size_alloc] at hs1
  have Hs1 := Lib.hid hs1
  have hz1 := hx1.size
  clear hs1
  go_wp2_with fail
  refine Calls.mono (spec_l18Draw _ _ cn _ w1 Hs1.out) ?_
  rintro e w2 hd2
  obtain ⟨s, k, n, rfl, hd2, hf, hN⟩ := hd2.now Hs1.out.lt
  have hx2 : Ext w w2 := by
    have := Drw.old hd2 hx1 (by simp)
    exact (by repeat (first | exact Ext.refl _ | assumption | refine Ext.alloc ?_ _ | refine Ext.drew ?_ | refine Ext.drewN ?_ _ | refine Ext.setCell ?_ (by first | (simp; done) | (simp; omega) | omega) _ | refine Ext.trans ?_ (by assumption)))
  have hb2 := (Hb.out.ext (show Ext (w.alloc (.cells #[.slice none 0 0, .slice none 0 0] 27)) w1 from (by repeat (first | exact Ext.refl _ | assumption | refine Ext.alloc ?_ _ | refine Ext.drew ?_ | refine Ext.drewN ?_ _ | refine Ext.setCell ?_ (by first | (simp; done) | (simp; omega) | omega) _ | refine Ext.trans ?_ (by assumption))))).drw hd2 (by simp)
  have c0 := hb2.at0
  have c1 := hb2.at1
  have f0 := hb2.fz 0 (by simp)
  have f1 := hb2.fz 1 (by simp)
  have HN := Lib.hid hN
  clear hN hd2 hb2
  obtain ⟨As, cs, rfl, _⟩ := HN.out.1.len
  obtain ⟨Ak, ck, rfl, _⟩ := HN.out.2.len
  have hw := hx2.size
  go_wp2_with fail
  refine bodyPost_ret (v := .agg #[.slice As n.sets.length cs, .slice Ak n.links.length ck]) (by simp [results, Try.results51, go_sem, *]) rfl ?_
  exact ⟨_, _, n, rfl, (by repeat (first | exact Ext.refl _ | assumption | refine Ext.alloc ?_ _ | refine Ext.drew ?_ | refine Ext.drewN ?_ _ | refine Ext.setCell ?_ (by first | (simp; done) | (simp; omega) | omega) _ | refine Ext.trans ?_ (by assumption))), hf, trivial, (net_store HN.out (by omega)).wide (by omega) (Nat.le_refl _)⟩
set_option maxRecDepth 100000 in
set_option maxHeartbeats 2000000 in
theorem spec_DrawTightestGap (cn : Nat) (cv : Value) (w : World) (h : Bytes w 0 w.heap.size cv cn) : Calls Try.prog 16 #[cv] w (DNetVV (fun _ v u => ∃ a b : Int, v = .int .i64 a ∧ u = .int .i64 b) w) := by
  obtain ⟨A, c, rfl, _⟩ := h.len
  have H := Lib.hid h
  clear h
  have Hb := Lib.hid (Boxed.new w [.slice none 0 0, .slice none 0 0] 27)
  go_enter Try.func16, Try.ntmps16
  go_wp2_with fail
  refine Calls.mono (spec_l01From cn _ _ (H.out.up (by repeat (first | exact Ext.refl _ | assumption | refine Ext.alloc ?_ _ | refine Ext.drew ?_ | refine Ext.drewN ?_ _ | refine Ext.setCell ?_ (by first | (simp; done) | (simp; omega) | omega) _ | refine Ext.trans ?_ (by assumption))))) ?_
  rintro e w1 ⟨rfl, hx1, hs1⟩
  rw [World.size_alloc] at hs1
  have Hs1 := Lib.hid (hs1.low (b1 := w.heap.size) (by omega) (H.out.ext (by repeat (first | exact Ext.refl _ | assumption | refine Ext.alloc ?_ _ | refine Ext.drew ?_ | refine Ext.drewN ?_ _ | refine Ext.setCell ?_ (by first | (simp; done) | (simp; omega) | omega) _ | refine Ext.trans ?_ (by assumption))) (Nat.le_refl _)))
  have hz1 := hx1.size
  clear hs1
  go_wp2_with fail
  refine Calls.mono (spec_l18Draw _ _ cn _ w1 Hs1.out) ?_
  rintro e w2 hD
  obtain ⟨s, k, n, rfl, hd2, hf, hN⟩ := hD.now Hs1.out.lt
  clear hD
  have hx2 : Ext w w2 := by
    have := Drw.old hd2 hx1 (by simp)
    exact (by repeat (first | exact Ext.refl _ | assumption | refine Ext.alloc ?_ _ | refine Ext.drew ?_ | refine Ext.drewN ?_ _ | refine Ext.setCell ?_ (by first | (simp; done) | (simp; omega) | omega) _ | refine Ext.trans ?_ (by assumption)))
  have hb2 := (Hb.out.ext (show Ext (w.alloc (.cells #[.slice none 0 0, .slice none 0 0] 27)) w1 from (by repeat (first | exact Ext.refl _ | assumption | refine Ext.alloc ?_ _ | refine Ext.drew ?_ | refine Ext.drewN ?_ _ | refine Ext.setCell ?_ (by first | (simp; done) | (simp; omega) | omega) _ | refine Ext.trans ?_ (by assumption))))).drw hd2 (by simp)
  have HN := Lib.hid hN
  obtain ⟨As, cs, rfl, _⟩ := HN.out.1.len
  obtain ⟨Ak, ck, rfl, _⟩ := HN.out.2.len
  obtain ⟨w3, hw3⟩ : ∃ w3 : World, w3 = w2.alloc (.cells #[.slice As n.sets.length cs, .slice Ak n.links.length ck] 27) := ⟨_, rfl⟩
  have hx3 : Ext w2 w3 := by rw [hw3]; exact (by repeat (first | exact Ext.refl _ | assumption | refine Ext.alloc ?_ _ | refine Ext.drew ?_ | refine Ext.drewN ?_ _ | refine Ext.setCell ?_ (by first | (simp; done) | (simp; omega) | omega) _ | refine Ext.trans ?_ (by assumption)))
  have hz3 : w3.heap.size = w2.heap.size + 1 := by rw [hw3]; simp
  have hbn : Boxed w3 w2.heap.size [.slice As n.sets.length cs, .slice Ak n.links.length ck] := by rw [hw3]; exact Boxed.new w2 [.slice As n.sets.length cs, .slice Ak n.links.length ck] 27
  have hw := hx2.size
  have hgl := hd2.src.lt
  have c0 := hbn.at0
  have c1 := hbn.at1
  have hS3 := Lib.hid (hd2.src.ext hx3)
  have HN3 := Lib.hid ((HN.out.ext hx3 (Nat.le_refl _)).wide (Nat.le_refl _) hx3.size)
  have HB3 := Lib.hid (hb2.ext hx3).drew
  clear hd2 hb2 hN hbn
  go_wp2_with fail
  rw [← hw3]
  clear hw3
  have hqg : w.heap.size ≠ w.heap.size + 1 := by omega
  have h02 : 0 < [Value.slice none 0 0, Value.slice none 0 0].length := by simp
  have h12 : 1 < [Value.slice none 0 0, Value.slice none 0 0].length := by simp
  go_region_held3 (fun w' => DrwR w.heap.size (w.heap.size + 1) w.heap.size (.slice A cn c) cn w3 w' ∧ w'.cell? ⟨w2.heap.size, 0, none⟩ = some (.slice As n.sets.length cs) ∧ w'.cell? ⟨w2.heap.size, 1, none⟩ = some (.slice Ak n.links.length ck))
    (exact DrwR.keep2 (by repeat (first | exact DrwR.refl hS3.out | exact (by assumption : DrwR _ _ _ _ _ w3 _ ∧ _).1 | assumption | refine DrwR.drew ?_ | refine DrwR.alloc ?_ _ | refine DrwR.set ?_ (by omega) (by omega) _ _)) (by omega) (by omega) (by omega) c0 c1)
    (first
      | (go_at_call 87; refine Calls.mono (spec_l01Next _ _ cn _ _ _ (by assumption : DrwR _ _ _ _ _ w3 _ ∧ _).1.src) ?_; rintro e w5 ⟨r5, rfl, -, hd5⟩; have hD5 := (by assumption : DrwR _ _ _ _ _ w3 _ ∧ _).1.drw hd5; have hq5 := Boxed.drw (Hid.out (by assumption : Hid (Boxed _ w.heap.size [.slice none 0 0, .slice none 0 0]))) hd5 hqg; have q0 := hq5.at0; have q1 := hq5.at1; have qf0 := hq5.fz 0 h02; have qf1 := hq5.fz 1 h12; have qz := hq5.1; have Hq5 := Lib.hid hq5; clear hd5 hq5))
  have hR := (by assumption : DrwR _ _ _ _ _ w3 _ ∧ _).1
  have hE := hR.old (show Ext w w3 from (by repeat (first | exact Ext.refl _ | assumption | refine Ext.alloc ?_ _ | refine Ext.drew ?_ | refine Ext.drewN ?_ _ | refine Ext.setCell ?_ (by first | (simp; done) | (simp; omega) | omega) _ | refine Ext.trans ?_ (by assumption)))) (by omega) (Nat.le_refl _)
  have hM := (hR.net HN3.out (by omega) (by omega)).wide (show w.heap.size ≤ _ by omega) (Nat.le_refl _)
  go_wp2_with fail
  refine bodyPost_ret (v := .tuple #[.agg #[.slice As n.sets.length cs, .slice Ak n.links.length ck], _, _]) (by simp [results, Try.results16, go_sem, *]; exact ⟨rfl, rfl⟩) rfl ?_
  exact ⟨_, _, _, _, n, rfl, hE, hf, ⟨_, _, rfl, rfl⟩, hM⟩
/-- .. and a list of whole numbers -/
def DNetI (w : World) (e : Ending) (w' : World) : Prop :=
  ∃ (s k v : Value) (n : Net) (l : List Int), e = .returned (.tuple #[.agg #[s, k], v]) ∧ Ext w w' ∧ Few n ∧ NetAt w' w.heap.size w'.heap.size s k n ∧ Ints w' w.heap.size w'.heap.size v l
theorem own_ints {w : World} {base T n : Nat} {v : Value} {l : List Int} (h : w.ownsRow base T 1 v n (cellsOf (l.length * 1) (intCell l))) (hn : n = l.length) : Ints w base w.heap.size v l := by
  subst hn
  obtain ⟨g, h1, h2⟩ := Own.of_owned h
  exact h2.row (fun h0 => ⟨(h1 h0).2, h2.lt h0⟩)
theorem own_set0 {w : World} {g off N c : Nat} {l : List Int} (h : Own w g 1 (.slice (some ⟨g, off, none⟩) N c) N (intCell l)) (hx : l.length = N) (h0 : 0 < N) (a : Int) : Own (w.setCell ⟨g, off, none⟩ (.int .i64 a)) g 1 (.slice (some ⟨g, off, none⟩) N c) N (intCell (l.set 0 a)) := by
  have h2 := h.set 0 (.int .i64 a) (by omega)
  refine h2.congr (fun i hi => ?_)
  unfold intCell inAt
  rw [List.getD_eq_getElem?_getD, List.getD_eq_getElem?_getD]
  by_cases e : i = 0
  · subst e
    rw [if_pos rfl, List.getElem?_set_self (by omega)]
    rfl
  · rw [if_neg e, List.getElem?_set_ne (by omega)]
theorem DNetI.fin {b0 g q cn lo : Nat} {cv s k v : Value} {n : Net} {l : List Int} {w w3 wz : World} (hx : Ext w w3) (hd : Drw b0 g cv cn w3 wz) (hN : NetAt w3 lo w3.heap.size s k n) (hg : g < lo) (hq : q < lo) (hwq : w.heap.size ≤ q) (hwg : w.heap.size ≤ g)
    (hI : Ints wz lo wz.heap.size v l) (hf : Few n) : DNetI w (.returned (.tuple #[.agg #[s, k], v])) ((wz.setCell ⟨q, 0, none⟩ s).setCell ⟨q, 1, none⟩ k) := by
  have hE := hd.old hx hwg
  have hO : Off (One q) wz ((wz.setCell ⟨q, 0, none⟩ s).setCell ⟨q, 1, none⟩ k) := Off.setCell (S := One q) (p := ⟨q, 1, none⟩) (Off.setCell (S := One q) (p := ⟨q, 0, none⟩) (Off.refl _ _) (.inl rfl) _) (.inl rfl) _
  refine ⟨s, k, v, n, l, rfl, (hE.setCell (p := ⟨q, 0, none⟩) hwq _).setCell (p := ⟨q, 1, none⟩) hwq _, hf, ?_, ?_⟩
  · exact (net_store ((hN.drw hd hg (Nat.le_refl _)).wide (Nat.le_refl _) hd.size) hq).wide (by omega) (Nat.le_refl _)
  · exact (Row.off hI hO (fun x h1 _ hh => by have e : x = q := hh; omega) (Nat.le_refl _)).mono (by omega) hO.size
set_option maxRecDepth 100000 in
set_option maxHeartbeats 2000000 in
theorem spec_DrawDoSolve (cn : Nat) (cv : Value) (w : World) (h : Bytes w 0 w.heap.size cv cn) : Calls Try.prog 11 #[cv] w (DNetI w) := by
  obtain ⟨A, c, rfl, _⟩ := h.len
  have H := Lib.hid h
  clear h
  have Hb := Lib.hid (Boxed.new w [.slice none 0 0, .slice none 0 0] 27)
  go_enter Try.func11, Try.ntmps11
  go_wp2_with fail
  refine Calls.mono (spec_l01From cn _ _ (H.out.up (by repeat (first | exact Ext.refl _ | assumption | refine Ext.alloc ?_ _ | refine Ext.drew ?_ | refine Ext.drewN ?_ _ | refine Ext.setCell ?_ (by first | (simp; done) | (simp; omega) | omega) _ | refine Ext.trans ?_ (by assumption))))) ?_
  rintro e w1 ⟨rfl, hx1, hs1⟩
  rw [World.size_alloc] at hs1
  have Hs1 := Lib.hid (hs1.low (b1 := w.heap.size) (by omega) (H.out.ext (by repeat (first | exact Ext.refl _ | assumption | refine Ext.alloc ?_ _ | refine Ext.drew ?_ | refine Ext.drewN ?_ _ | refine Ext.setCell ?_ (by first | (simp; done) | (simp; omega) | omega) _ | refine Ext.trans ?_ (by assumption))) (Nat.le_refl _)))
  have hz1 := hx1.size
  clear hs1
  go_wp2_with fail
  refine Calls.mono (spec_l18Draw _ _ cn _ w1 Hs1.out) ?_
  rintro e w2 hD
  obtain ⟨s, k, n, rfl, hd2, hf, hN⟩ := hD.now Hs1.out.lt
  clear hD
  have hx2 : Ext w w2 := by
    have := Drw.old hd2 hx1 (by simp)
    exact (by repeat (first | exact Ext.refl _ | assumption | refine Ext.alloc ?_ _ | refine Ext.drew ?_ | refine Ext.drewN ?_ _ | refine Ext.setCell ?_ (by first | (simp; done) | (simp; omega) | omega) _ | refine Ext.trans ?_ (by assumption)))
  have hb2 := (Hb.out.ext (show Ext (w.alloc (.cells #[.slice none 0 0, .slice none 0 0] 27)) w1 from (by repeat (first | exact Ext.refl _ | assumption | refine Ext.alloc ?_ _ | refine Ext.drew ?_ | refine Ext.drewN ?_ _ | refine Ext.setCell ?_ (by first | (simp; done) | (simp; omega) | omega) _ | refine Ext.trans ?_ (by assumption))))).drw hd2 (by simp)
  have HN := Lib.hid hN
  obtain ⟨As, cs, rfl, _⟩ := HN.out.1.len
  obtain ⟨Ak, ck, rfl, _⟩ := HN.out.2.len
  obtain ⟨w3, hw3⟩ : ∃ w3 : World, w3 = w2.alloc (.cells #[.slice As n.sets.length cs, .slice Ak n.links.length ck] 27) := ⟨_, rfl⟩
  have hx3 : Ext w2 w3 := by rw [hw3]; exact (by repeat (first | exact Ext.refl _ | assumption | refine Ext.alloc ?_ _ | refine Ext.drew ?_ | refine Ext.drewN ?_ _ | refine Ext.setCell ?_ (by first | (simp; done) | (simp; omega) | omega) _ | refine Ext.trans ?_ (by assumption)))
  have hz3 : w3.heap.size = w2.heap.size + 1 := by rw [hw3]; simp
  have hbn : Boxed w3 w2.heap.size [.slice As n.sets.length cs, .slice Ak n.links.length ck] := by rw [hw3]; exact Boxed.new w2 [.slice As n.sets.length cs, .slice Ak n.links.length ck] 27
  have hw := hx2.size
  have hgl := hd2.src.lt
  have c0 := hbn.at0
  have c1 := hbn.at1
  have hS3 := Lib.hid (hd2.src.ext hx3)
  have HN3 := Lib.hid ((HN.out.ext hx3 (Nat.le_refl _)).wide (Nat.le_refl _) hx3.size)
  have HB3 := Lib.hid (hb2.ext hx3)
  have HBN := Lib.hid hbn
  have h8 : n.sets.length ≤ 1000 := by have := hf.1; omega
  clear hd2 hb2 hN hbn
  go_wp2_with fail
  rw [← hw3]
  clear hw3
  go_wp2_with fail
  refine Calls.mono (spec_l18DrawDays _ _ cn (w.heap.size + 1 + 1) w3.heap.size _ _ _ n w3 hS3.out HN3.out.1 (by omega) (Nat.le_refl _) h8) ?_
  rintro e w4 ⟨dv, ds, rfl, hd4, hds, hrow4⟩
  have hdl : ds.length ≤ 1000 := by have e : ds.length = n.sets.length := hds; omega
  clear hds
  obtain ⟨Ad, cd, rfl⟩ := ownsRow_len hrow4
  have Hd4 := Lib.hid hd4
  have Hr4 := Lib.hid hrow4
  have hz4 := hd4.size
  clear hd4 hrow4
  go_wp2_with fail
  refine Calls.mono (spec_l01Next _ _ cn _ 40 w4 Hd4.out.src) ?_
  rintro e w5 ⟨r, rfl, -, hd5⟩
  have Hd5 := Lib.hid (Hd4.out.trans hd5)
  have Hr5 := Lib.hid (ownsRow_drw Hr4.out hd5 (by omega))
  have hz5 := hd5.size
  clear hd5 Hr4
  by_cases z0 : r = 0
  · subst z0
    have hbq := HB3.out.drw (Hd5.out) (by omega)
    have q0 := hbq.at0
    have q1 := hbq.at1
    have qf0 := hbq.fz 0 (by simp)
    have qf1 := hbq.fz 1 (by simp)
    have hbm := HBN.out.drw (Hd5.out) (by omega)
    have m0 := hbm.at0
    have m1 := hbm.at1
    have hqz := hbq.1
    have hmz := hbm.1
    clear hbq hbm
    go_wp2_with (at_builtin; refine wpList_append_row _ rfl _ _ 28 rfl w3.heap.size 2 1 8 Try.underlying28 (by kernel_rfl) (by omega) _ ds.length 1 _ rfl (.inl (row_ext Hr5.out (by repeat (first | exact Ext.refl _ | assumption | refine Ext.alloc ?_ _ | refine Ext.drew ?_ | refine Ext.drewN ?_ _ | refine Ext.setCell ?_ (by first | (simp; done) | (simp; omega) | omega) _ | refine Ext.trans ?_ (by assumption))))) (.inr (by omega)) 0 _ _ (intCell [5]) rfl ((Boxed.new w5 [.int .i64 5] 2).row rfl (one_int _)) (fun _ _ => rfl) (by unfold maxLen; omega) (by omega) (by simp; omega) ?_; intro v9 w9 hown9 hput9; obtain ⟨A9, c9, rfl⟩ := ownsRow_len hown9; have Hr9 := Lib.hid (intRow_push hown9); have Hd9 := Lib.hid ((Hd5.out.alloc _).put (by omega) hput9 (Nat.le_refl _)); have Hx9 := Lib.hid ((HB3.out.drw Hd9.out (by omega)).at0); have q0 := Hx9.out; have q1 := (HB3.out.drw Hd9.out (by omega)).at1; have qf0 := (HB3.out.drw Hd9.out (by omega)).fz 0 (by simp); have qf1 := (HB3.out.drw Hd9.out (by omega)).fz 1 (by simp); have m0 := (HBN.out.drw Hd9.out (by omega)).at0; have m1 := (HBN.out.drw Hd9.out (by omega)).at1; have hqz := (HB3.out.drw Hd9.out (by omega)).1; clear hown9 hput9)
    refine bodyPost_ret (v := .tuple #[.agg #[.slice As n.sets.length cs, .slice Ak n.links.length ck], .slice A9 (ds.length + 1) c9]) (by simp [results, Try.results11, go_sem, *]) rfl ?_
    exact DNetI.fin (lo := w.heap.size + 1 + 1) (show Ext w w3 from (by repeat (first | exact Ext.refl _ | assumption | refine Ext.alloc ?_ _ | refine Ext.drew ?_ | refine Ext.drewN ?_ _ | refine Ext.setCell ?_ (by first | (simp; done) | (simp; omega) | omega) _ | refine Ext.trans ?_ (by assumption)))) Hd9.out HN3.out (by omega) (by omega) (Nat.le_refl _) (by omega) ((own_ints Hr9.out (by simp)).mono (by omega) (Nat.le_refl _)) hf
  · have z0' : (r == 0) = false := by simpa using z0
    by_cases z1 : r = 1
    · subst z1
      by_cases hl0 : 0 < ds.length
      · have hl0i : (0 : Int) < (ds.length : Int) := by omega
        obtain ⟨gd, hgd, ho⟩ := Own.of_owned Hr5.out
        obtain ⟨off, rfl, hgz, hcell⟩ := ho.at_ hl0
        have hgd' := (hgd hl0).2
        have hpk := box_pick (b0 := w.heap.size) (g := w.heap.size + 1) (cn := cn) (cv := .slice A cn c) [-1, 730499, 730500] (Boxed.new w5 [.int .i64 (-1), .int .i64 730499, .int .i64 730500] 2) (by simp) (by omega)
        have Hpk := Lib.hid hpk
        have Ho := Lib.hid ho
        clear hpk ho hcell
        go_wp2_with fail
        refine Calls.mono (spec_l01Pick _ _ cn _ _ [-1, 730499, 730500] _ (Hd5.out.alloc _).src Hpk.out.1 (by simp) Hpk.out.2) ?_
        rintro e w6 ⟨x, rfl, -, hd6⟩
        have Hd6 := Lib.hid ((Hd5.out.alloc _).trans hd6)
        have hI6 := (Ho.out.ext ((Ext.refl w5).alloc (.cells #[.int .i64 (-1), .int .i64 730499, .int .i64 730500] 2))).off hd6.off (fun _ hh => by have e : gd = w.heap.size + 1 := hh; omega)
        have hI7 := own_set0 hI6 rfl hl0 x
        have hw7 := hI7.lt hl0
        have Hd7 := Lib.hid (Hd6.out.setCell (p := ⟨gd, off, none⟩) (by show _ ≤ gd; omega) (by show _ < gd; omega) (.int .i64 x))
        have k0 := hI6.at_ hl0
        obtain ⟨off', e', _, k0⟩ := k0
        injection e' with e'
        injection e' with _ e'
        subst e'
        obtain ⟨k0, kf⟩ := k0 0 (by omega)
        rw [Nat.add_zero] at k0 kf
        have HI := Lib.hid (show Ints (w6.setCell ⟨gd, off, none⟩ (.int .i64 x)) (w.heap.size + 1 + 1) (w6.setCell ⟨gd, off, none⟩ (.int .i64 x)).heap.size (.slice (some ⟨gd, off, none⟩) ds.length cd) (ds.set 0 x) from by
          have := hI7.row (lo := w.heap.size + 1 + 1) (hi := (w6.setCell ⟨gd, off, none⟩ (.int .i64 x)).heap.size) (fun _ => ⟨by omega, hw7⟩)
          unfold Ints
          rw [List.length_set]
          exact this)
        clear hd6 hI6 hI7
        have hbq := HB3.out.drw (Hd7.out) (by omega)
        have q0 := hbq.at0
        have q1 := hbq.at1
        have qf0 := hbq.fz 0 (by simp)
        have qf1 := hbq.fz 1 (by simp)
        have hbm := HBN.out.drw (Hd7.out) (by omega)
        have m0 := hbm.at0
        have m1 := hbm.at1
        have hqz := hbq.1
        have hmz := hbm.1
        clear hbq hbm
        go_wp2_with fail
        refine bodyPost_ret (v := .tuple #[.agg #[.slice As n.sets.length cs, .slice Ak n.links.length ck], .slice (some ⟨gd, off, none⟩) ds.length cd]) (by simp [results, Try.results11, go_sem, *]) rfl ?_
        exact DNetI.fin (lo := w.heap.size + 1 + 1) (show Ext w w3 from (by repeat (first | exact Ext.refl _ | assumption | refine Ext.alloc ?_ _ | refine Ext.drew ?_ | refine Ext.drewN ?_ _ | refine Ext.setCell ?_ (by first | (simp; done) | (simp; omega) | omega) _ | refine Ext.trans ?_ (by assumption)))) Hd7.out HN3.out (by omega) (by omega) (Nat.le_refl _) (by omega) HI.out hf
      · have hl0i : ¬ (0 : Int) < (ds.length : Int) := by omega
        have hbq := HB3.out.drw (Hd5.out) (by omega)
        have q0 := hbq.at0
        have q1 := hbq.at1
        have qf0 := hbq.fz 0 (by simp)
        have qf1 := hbq.fz 1 (by simp)
        have hbm := HBN.out.drw (Hd5.out) (by omega)
        have m0 := hbm.at0
        have m1 := hbm.at1
        have hqz := hbq.1
        have hmz := hbm.1
        clear hbq hbm
        go_wp2_with fail
        refine bodyPost_ret (v := .tuple #[.agg #[.slice As n.sets.length cs, .slice Ak n.links.length ck], .slice Ad ds.length cd]) (by simp [results, Try.results11, go_sem, *]) rfl ?_
        exact DNetI.fin (lo := w.heap.size + 1 + 1) (show Ext w w3 from (by repeat (first | exact Ext.refl _ | assumption | refine Ext.alloc ?_ _ | refine Ext.drew ?_ | refine Ext.drewN ?_ _ | refine Ext.setCell ?_ (by first | (simp; done) | (simp; omega) | omega) _ | refine Ext.trans ?_ (by assumption)))) Hd5.out HN3.out (by omega) (by omega) (Nat.le_refl _) (by omega) ((own_ints Hr5.out (by simp)).mono (by omega) (Nat.le_refl _)) hf
    · have z1' : (r == 1) = false := by simpa using z1
      have hbq := HB3.out.drw (Hd5.out) (by omega)
      have q0 := hbq.at0
      have q1 := hbq.at1
      have qf0 := hbq.fz 0 (by simp)
      have qf1 := hbq.fz 1 (by simp)
      have hbm := HBN.out.drw (Hd5.out) (by omega)
      have m0 := hbm.at0
      have m1 := hbm.at1
      have hqz := hbq.1
      have hmz := hbm.1
      clear hbq hbm
      go_wp2_with fail
      refine bodyPost_ret (v := .tuple #[.agg #[.slice As n.sets.length cs, .slice Ak n.links.length ck], .slice Ad ds.length cd]) (by simp [results, Try.results11, go_sem, *]) rfl ?_
      exact DNetI.fin (lo := w.heap.size + 1 + 1) (show Ext w w3 from (by repeat (first | exact Ext.refl _ | assumption | refine Ext.alloc ?_ _ | refine Ext.drew ?_ | refine Ext.drewN ?_ _ | refine Ext.setCell ?_ (by first | (simp; done) | (simp; omega) | omega) _ | refine Ext.trans ?_ (by assumption)))) Hd5.out HN3.out (by omega) (by omega) (Nat.le_refl _) (by omega) ((own_ints Hr5.out (by simp)).mono (by omega) (Nat.le_refl _)) hf
end Go.Proofs.Ytfajmlkiidnhlaa

/- Contracts: networks that the layer of narrowing draws from a code. -/
namespace Go.Proofs.Ytfajmlkiidnhlaa
set_option linter.unusedVariables false
set_option linter.unusedSimpArgs false
open Go.RowKit
attribute [local go_sem] cell_onto

/-- a network drawn: to be read, in new blocks -/
def DNetW (w : World) (e : Ending) (w' : World) : Prop := ∃ (s k : Value) (n : Net), e = .returned (.agg #[s, k]) ∧ Ext w w' ∧ NetAt w' w.heap.size w'.heap.size s k n
/-- a box is written: what was drawn before stays, nothing old turns -/
theorem DNetW.fin {w wz : World} {q lo : Nat} {s k : Value} {n : Net} (hx : Ext w wz) (hN : NetAt wz lo wz.heap.size s k n) (hq : q < lo) (hwq : w.heap.size ≤ q) : DNetW w (.returned (.agg #[s, k])) ((wz.setCell ⟨q, 0, none⟩ s).setCell ⟨q, 1, none⟩ k) :=
  ⟨s, k, n, rfl, (hx.setCell (p := ⟨q, 0, none⟩) hwq _).setCell (p := ⟨q, 1, none⟩) hwq _, (net_store hN hq).wide (by omega) (Nat.le_refl _)⟩
theorem NetAt.read {w : World} {lo : Nat} {s k : Value} {n : Net} (h : NetAt w lo w.heap.size s k n) : NetIn w s k n := ⟨h.1.mono (Nat.zero_le _) (Nat.le_refl _), h.2.mono (Nat.zero_le _) (Nat.le_refl _)⟩
def DNetX (w : World) (e : Ending) (w' : World) : Prop := ∃ (s k : Value) (n : Net) (x : Int), e = .returned (.tuple #[.agg #[s, k], .int .i64 x]) ∧ Ext w w' ∧ NetAt w' w.heap.size w'.heap.size s k n
def DNetXB (w : World) (e : Ending) (w' : World) : Prop := ∃ (s k : Value) (n : Net) (x : Int) (b : Bool), e = .returned (.tuple #[.agg #[s, k], .int .i64 x, .bool b]) ∧ Ext w w' ∧ NetAt w' w.heap.size w'.heap.size s k n
def DNetN (w : World) (e : Ending) (w' : World) : Prop := ∃ (s k s' k' : Value) (n m : Net), e = .returned (.tuple #[.agg #[s, k], .agg #[s', k']]) ∧ Ext w w' ∧ NetAt w' w.heap.size w'.heap.size s k n ∧ NetAt w' w.heap.size w'.heap.size s' k' m
/-- the network of two sets that the draws make by hand -/
def handNet (x : Int) : Net := ⟨[[⟨1000, x⟩], [⟨1000, x⟩]], [⟨0, 1, 1, 5⟩, ⟨1, 0, 0, 9⟩]⟩
theorem row_box {w : World} {g sz n : Nat} {cs : List Value} {f : Nat → Value} (h : Boxed w g cs) (hn : n ≤ 4096) (hl : cs.length = n * sz) (hf : ∀ i, i < n * sz → cs[i]? = some (f i)) (lo : Nat) (hlo : lo ≤ g) : Row w lo w.heap.size sz (.slice (some ⟨g, 0, none⟩) n n) n f :=
  ⟨by unfold maxLen; omega, _, _, rfl, Nat.le_refl _, fun _ => ⟨g, 0, rfl, hlo, h.1, fun i hi => by rw [Nat.zero_add]; exact (h.2 i _ (hf i hi)).1⟩⟩
theorem hand_net {w : World} {x : Int} {g1 g2 g3 g4 lo : Nat} (h1 : Boxed w g1 [.int .i64 1000, .int .i64 x]) (h2 : Boxed w g2 [.int .i64 1000, .int .i64 x]) (h3 : Boxed w g3 [.slice (some ⟨g1, 0, none⟩) 1 1, .slice (some ⟨g2, 0, none⟩) 1 1])
    (h4 : Boxed w g4 [.int .i64 0, .int .i64 1, .int .i64 1, .int .i64 5, .int .i64 1, .int .i64 0, .int .i64 0, .int .i64 9]) (l1 : lo ≤ g1) (l2 : lo ≤ g2) (l3 : lo ≤ g3) (l4 : lo ≤ g4) :
    NetAt w lo w.heap.size (.slice (some ⟨g3, 0, none⟩) 2 2) (.slice (some ⟨g4, 0, none⟩) 2 2) (handNet x) := by
  refine ⟨⟨fun i => if i = 0 then .slice (some ⟨g1, 0, none⟩) 1 1 else .slice (some ⟨g2, 0, none⟩) 1 1, ?_, ?_⟩, ?_⟩
  · exact row_box h3 (by show 2 ≤ 4096; omega) rfl (fun i hi => by
      have hi' : i < 2 := hi
      match i, hi' with
      | 0, _ => rfl
      | 1, _ => rfl) lo l3
  · intro i hi
    have hi' : i < 2 := hi
    match i, hi' with
    | 0, _ => exact row_box h1 (by show 1 ≤ 4096; omega) rfl (fun i hi => by
        have hi' : i < 2 := hi
        match i, hi' with
        | 0, _ => rfl
        | 1, _ => rfl) lo l1
    | 1, _ => exact row_box h2 (by show 1 ≤ 4096; omega) rfl (fun i hi => by
        have hi' : i < 2 := hi
        match i, hi' with
        | 0, _ => rfl
        | 1, _ => rfl) lo l2
  · exact row_box h4 (by show 2 ≤ 4096; omega) rfl (fun i hi => by
      have hi' : i < 8 := hi
      match i, hi' with
      | 0, _ => rfl
      | 1, _ => rfl
      | 2, _ => rfl
      | 3, _ => rfl
      | 4, _ => rfl
      | 5, _ => rfl
      | 6, _ => rfl
      | 7, _ => rfl) lo l4
set_option maxRecDepth 100000 in
set_option maxHeartbeats 4000000 in
theorem spec_DrawNarrowRound (cn : Nat) (cv : Value) (w : World) (h : Bytes w 0 w.heap.size cv cn) : Calls Try.prog 63 #[cv] w (DNetW w) := by
  obtain ⟨A, c, rfl, _⟩ := h.len
  have H := Lib.hid h
  clear h
  have Hb := Lib.hid (Boxed.new w [.slice none 0 0, .slice none 0 0] 27)
  go_enter Try.func63, Try.ntmps63
  go_wp2_with fail
  refine Calls.mono (spec_l01From cn _ _ (H.out.up (by repeat (first | exact Ext.refl _ | assumption | refine Ext.alloc ?_ _ | refine Ext.drew ?_ | refine Ext.drewN ?_ _ | refine Ext.setCell ?_ (by first | (simp; done) | (simp; omega) | omega) _ | refine Ext.trans ?_ (by assumption))))) ?_
  rintro e w1 ⟨rfl, hx1, hs1⟩
  rw [World.size_alloc] at hs1
  have Hs1 := Lib.hid (hs1.low (b1 := w.heap.size) (by omega) (H.out.ext (by repeat (first | exact Ext.refl _ | assumption | refine Ext.alloc ?_ _ | refine Ext.drew ?_ | refine Ext.drewN ?_ _ | refine Ext.setCell ?_ (by first | (simp; done) | (simp; omega) | omega) _ | refine Ext.trans ?_ (by assumption))) (Nat.le_refl _)))
  have hz1 := hx1.size
  rw [World.size_alloc] at hz1
  have HB1 := Lib.hid (Hb.out.ext hx1)
  have hxw1 : Ext w w1 := (by repeat (first | exact Ext.refl _ | assumption | refine Ext.alloc ?_ _ | refine Ext.drew ?_ | refine Ext.drewN ?_ _ | refine Ext.setCell ?_ (by first | (simp; done) | (simp; omega) | omega) _ | refine Ext.trans ?_ (by assumption)))
  clear hs1
  go_wp2_with fail
  refine Calls.mono (spec_l18Draw _ _ cn _ _ Hs1.out) ?_
  rintro e w2 hD
  obtain ⟨s, k, n, rfl, hd2, hf, hN⟩ := hD.now Hs1.out.lt
  clear hD hf
  have hxw2 := hd2.old hxw1 (by omega)
  have HN := Lib.hid hN
  have hz2 := hd2.size
  have bb := HB1.out.drw hd2 (by omega)
  have bb0 := bb.at0
  have bb1 := bb.at1
  have bbf0 := bb.fz 0 (by simp)
  have bbf1 := bb.fz 1 (by simp)
  have bbg := bb.1
  have Hbb := Lib.hid bb
  clear bb
  clear hd2 hN
  obtain ⟨As, cs, rfl, _⟩ := HN.out.1.len
  obtain ⟨Ak, ck, rfl, _⟩ := HN.out.2.len
  go_wp2_with fail
  refine bodyPost_ret (v := .agg #[.slice As n.sets.length cs, .slice Ak n.links.length ck]) (by simp [results, Try.results63, go_sem, *]) rfl ?_
  exact DNetW.fin hxw2 HN.out (by omega) (Nat.le_refl _)
set_option maxRecDepth 100000 in
set_option maxHeartbeats 4000000 in
theorem spec_DrawNarrowAll (cn : Nat) (cv : Value) (w : World) (h : Bytes w 0 w.heap.size cv cn) : Calls Try.prog 60 #[cv] w (DNetW w) := by
  obtain ⟨A, c, rfl, _⟩ := h.len
  have H := Lib.hid h
  clear h
  have Hb := Lib.hid (Boxed.new w [.slice none 0 0, .slice none 0 0] 27)
  go_enter Try.func60, Try.ntmps60
  go_wp2_with fail
  refine Calls.mono (spec_l01From cn _ _ (H.out.up (by repeat (first | exact Ext.refl _ | assumption | refine Ext.alloc ?_ _ | refine Ext.drew ?_ | refine Ext.drewN ?_ _ | refine Ext.setCell ?_ (by first | (simp; done) | (simp; omega) | omega) _ | refine Ext.trans ?_ (by assumption))))) ?_
  rintro e w1 ⟨rfl, hx1, hs1⟩
  rw [World.size_alloc] at hs1
  have Hs1 := Lib.hid (hs1.low (b1 := w.heap.size) (by omega) (H.out.ext (by repeat (first | exact Ext.refl _ | assumption | refine Ext.alloc ?_ _ | refine Ext.drew ?_ | refine Ext.drewN ?_ _ | refine Ext.setCell ?_ (by first | (simp; done) | (simp; omega) | omega) _ | refine Ext.trans ?_ (by assumption))) (Nat.le_refl _)))
  have hz1 := hx1.size
  rw [World.size_alloc] at hz1
  have HB1 := Lib.hid (Hb.out.ext hx1)
  have hxw1 : Ext w w1 := (by repeat (first | exact Ext.refl _ | assumption | refine Ext.alloc ?_ _ | refine Ext.drew ?_ | refine Ext.drewN ?_ _ | refine Ext.setCell ?_ (by first | (simp; done) | (simp; omega) | omega) _ | refine Ext.trans ?_ (by assumption)))
  clear hs1
  go_wp2_with fail
  refine Calls.mono (spec_l01Next _ _ cn _ 20 _ Hs1.out) ?_
  rintro e w2 ⟨r, rfl, -, hd2⟩
  have Hd2 := Lib.hid hd2
  have hz2 := hd2.size
  have hxw2 := hd2.old hxw1 (by omega)
  clear hd2
  by_cases z0 : r = 0
  · subst z0
    go_wp2_with fail
    refine Calls.mono (spec_l01Next _ _ cn _ 500 _ Hd2.out.src) ?_
    rintro e w3 ⟨r3, rfl, ⟨u0, u1, _⟩, hd3⟩
    have hu1 := u1 (by omega)
    have Hd3 := Lib.hid (Hd2.out.trans hd3)
    have hz3 := hd3.size
    have hxw3 := Hd3.out.old hxw1 (by omega)
    have HB3 := Lib.hid (HB1.out.drw Hd3.out (by omega))
    clear hd3 u1
    have W3 : IntKind.i64.wrap (1000 + r3) = 1000 + r3 := IntWalk.i64_in _ (by omega)
    obtain ⟨wa, hwa⟩ : ∃ wa : World, wa = w3.alloc (.cells #[.int .i64 1000, .int .i64 (1000 + r3)] 129) := ⟨_, rfl⟩
    obtain ⟨wb, hwb⟩ : ∃ wb : World, wb = wa.alloc (.cells #[.int .i64 1000, .int .i64 (1000 + r3)] 129) := ⟨_, rfl⟩
    obtain ⟨wc, hwc⟩ : ∃ wc : World, wc = wb.alloc (.cells #[.int .i64 1000, .int .i64 (1000 + r3)] 129) := ⟨_, rfl⟩
    have ea : wa.heap.size = w3.heap.size + 1 := by rw [hwa]; simp
    have eb : wb.heap.size = w3.heap.size + 1 + 1 := by rw [hwb, World.size_alloc, ea]
    have ec : wc.heap.size = w3.heap.size + 1 + 1 + 1 := by rw [hwc, World.size_alloc, eb]
    obtain ⟨wd, hwd⟩ : ∃ wd : World, wd = wc.alloc (.cells #[.slice (some ⟨w3.heap.size + 1, 0, none⟩) 1 1, .slice (some ⟨w3.heap.size + 1 + 1, 0, none⟩) 1 1] 42) := ⟨_, rfl⟩
    have ed : wd.heap.size = w3.heap.size + 1 + 1 + 1 + 1 := by rw [hwd, World.size_alloc, ec]
    obtain ⟨we, hwe⟩ : ∃ we : World, we = wd.alloc (.cells #[.int .i64 0, .int .i64 1, .int .i64 1, .int .i64 5, .int .i64 1, .int .i64 0, .int .i64 0, .int .i64 9] 60) := ⟨_, rfl⟩
    have xa : Ext w3 wa := by rw [hwa]; exact (by repeat (first | exact Ext.refl _ | assumption | refine Ext.alloc ?_ _ | refine Ext.drew ?_ | refine Ext.drewN ?_ _ | refine Ext.setCell ?_ (by first | (simp; done) | (simp; omega) | omega) _ | refine Ext.trans ?_ (by assumption)))
    have xb : Ext wa wb := by rw [hwb]; exact (by repeat (first | exact Ext.refl _ | assumption | refine Ext.alloc ?_ _ | refine Ext.drew ?_ | refine Ext.drewN ?_ _ | refine Ext.setCell ?_ (by first | (simp; done) | (simp; omega) | omega) _ | refine Ext.trans ?_ (by assumption)))
    have xc : Ext wb wc := by rw [hwc]; exact (by repeat (first | exact Ext.refl _ | assumption | refine Ext.alloc ?_ _ | refine Ext.drew ?_ | refine Ext.drewN ?_ _ | refine Ext.setCell ?_ (by first | (simp; done) | (simp; omega) | omega) _ | refine Ext.trans ?_ (by assumption)))
    have xd : Ext wc wd := by rw [hwd]; exact (by repeat (first | exact Ext.refl _ | assumption | refine Ext.alloc ?_ _ | refine Ext.drew ?_ | refine Ext.drewN ?_ _ | refine Ext.setCell ?_ (by first | (simp; done) | (simp; omega) | omega) _ | refine Ext.trans ?_ (by assumption)))
    have xe : Ext wd we := by rw [hwe]; exact (by repeat (first | exact Ext.refl _ | assumption | refine Ext.alloc ?_ _ | refine Ext.drew ?_ | refine Ext.drewN ?_ _ | refine Ext.setCell ?_ (by first | (simp; done) | (simp; omega) | omega) _ | refine Ext.trans ?_ (by assumption)))
    have Y1 : Boxed wb (w3.heap.size + 1) [.int .i64 1000, .int .i64 (1000 + r3)] := by rw [hwb, ← ea]; exact Boxed.new wa [.int .i64 1000, .int .i64 (1000 + r3)] 129
    have Y2 : Boxed wc (w3.heap.size + 1 + 1) [.int .i64 1000, .int .i64 (1000 + r3)] := by rw [hwc, ← eb]; exact Boxed.new wb [.int .i64 1000, .int .i64 (1000 + r3)] 129
    have Y3 : Boxed wd (w3.heap.size + 1 + 1 + 1) [.slice (some ⟨w3.heap.size + 1, 0, none⟩) 1 1, .slice (some ⟨w3.heap.size + 1 + 1, 0, none⟩) 1 1] := by rw [hwd, ← ec]; exact Boxed.new wc [.slice (some ⟨w3.heap.size + 1, 0, none⟩) 1 1, .slice (some ⟨w3.heap.size + 1 + 1, 0, none⟩) 1 1] 42
    have Y4 : Boxed we (w3.heap.size + 1 + 1 + 1 + 1) [.int .i64 0, .int .i64 1, .int .i64 1, .int .i64 5, .int .i64 1, .int .i64 0, .int .i64 0, .int .i64 9] := by rw [hwe, ← ed]; exact Boxed.new wd [.int .i64 0, .int .i64 1, .int .i64 1, .int .i64 5, .int .i64 1, .int .i64 0, .int .i64 0, .int .i64 9] 60
    have ne := hand_net (lo := w.heap.size + 1) (Y1.ext ((xc.trans xd).trans xe)) (Y2.ext (xd.trans xe)) (Y3.ext xe) Y4 (by omega) (by omega) (by omega) (by omega)
    have Ne := Lib.hid ne
    have hze : we.heap.size = w3.heap.size + 1 + 1 + 1 + 1 + 1 := by rw [hwe, World.size_alloc, ed]
    have hbe := HB3.out.ext ((((xa.trans xb).trans xc).trans xd).trans xe)
    have xw := Lib.hid (((((hxw3.trans xa).trans xb).trans xc).trans xd).trans xe)
    have bb0 := hbe.at0
    have bb1 := hbe.at1
    have bbf0 := hbe.fz 0 (by simp)
    have bbf1 := hbe.fz 1 (by simp)
    clear xa xb xc xd xe ne hbe ea eb ec ed hze Y1 Y2 Y3 Y4
    subst hwe hwd hwc hwb hwa
    go_wp2_with fail
    refine bodyPost_ret (v := .agg #[.slice (some ⟨w3.heap.size + 1 + 1 + 1, 0, none⟩) 2 2, .slice (some ⟨w3.heap.size + 1 + 1 + 1 + 1, 0, none⟩) 2 2]) (by simp [results, Try.results60, go_sem, *]) rfl ?_
    exact DNetW.fin (n := handNet (1000 + r3)) xw.out Ne.out (by omega) (Nat.le_refl _)
  · have z0' : (r == 0) = false := by simpa using z0
    go_wp2_with fail
    refine Calls.mono (spec_l18Draw _ _ cn _ _ Hd2.out.src) ?_
    rintro e w3 hD
    obtain ⟨s, k, n, rfl, hd2, hf, hN⟩ := hD.now Hd2.out.src.lt
    clear hD hf
    have Hd3 := Lib.hid (Hd2.out.trans hd2)
    have hxw3 := Hd3.out.old hxw1 (by omega)
    have HN := Lib.hid hN
    have hz3 := hd2.size
    have bb := HB1.out.drw Hd3.out (by omega)
    have bb0 := bb.at0
    have bb1 := bb.at1
    have bbf0 := bb.fz 0 (by simp)
    have bbf1 := bb.fz 1 (by simp)
    have bbg := bb.1
    have Hbb := Lib.hid bb
    clear bb
    clear hd2 hN
    obtain ⟨As, cs, rfl, _⟩ := HN.out.1.len
    obtain ⟨Ak, ck, rfl, _⟩ := HN.out.2.len
    go_wp2_with fail
    refine bodyPost_ret (v := .agg #[.slice As n.sets.length cs, .slice Ak n.links.length ck]) (by simp [results, Try.results60, go_sem, *]) rfl ?_
    exact DNetW.fin hxw3 HN.out (by omega) (Nat.le_refl _)
theorem DrwR.drw_of {b0 g q cn : Nat} {cv : Value} {w w3 w' : World} (h : DrwR b0 g q cv cn w3 w') (h1 : Drw b0 g cv cn w w3) (hq : w.heap.size ≤ q) : Drw b0 g cv cn w w' :=
  ⟨h1.off.news h.off (fun k hk => hk.elim (fun e => .inl e) (fun e => .inr (by omega))), h.src⟩
/-- a network and a number, drawn out of a source -/
def DrNetX (b0 g : Nat) (cv : Value) (cn : Nat) (w : World) (e : Ending) (w' : World) : Prop :=
  ∃ (s k : Value) (n : Net) (x : Int), e = .returned (.tuple #[.agg #[s, k], .int .i64 x]) ∧ Drw b0 g cv cn w w' ∧ NetAt w' w.heap.size w'.heap.size s k n
set_option maxRecDepth 100000 in
set_option maxHeartbeats 4000000 in
theorem spec_l19DrawLink (b0 g cn : Nat) (cv : Value) (w : World) (h : Src b0 g cv cn w) : Calls Try.prog 139 #[.pointer (some ⟨g, 0, none⟩)] w (DrNetX b0 g cv cn w) := by
  have Hs := Lib.hid h
  have hg := h.lt
  have hlo := h.lo
  clear h
  obtain ⟨w1, hw1⟩ : ∃ w1 : World, w1 = w.alloc (.cells #[.slice none 0 0, .slice none 0 0] 27) := ⟨_, rfl⟩
  have hd1 : Drw b0 g cv cn w w1 := by rw [hw1]; exact (Drw.refl Hs.out).alloc _
  have hz1 : w1.heap.size = w.heap.size + 1 := by rw [hw1]; simp
  have HB1 := Lib.hid (show Boxed w1 w.heap.size [.slice none 0 0, .slice none 0 0] from by rw [hw1]; exact Boxed.new w [.slice none 0 0, .slice none 0 0] 27)
  have Hd1 := Lib.hid hd1
  clear hd1
  go_enter Try.func139, Try.ntmps139
  go_wp2_with fail
  rw [← hw1]
  clear hw1
  refine Calls.mono (spec_l18Draw _ _ cn _ w1 Hd1.out.src) ?_
  rintro e w2 hD
  obtain ⟨s, k, n, rfl, hd2, hf, hN⟩ := hD.fresh
  clear hD hf
  have hz2 := hd2.size
  have hb2 := HB1.out.drw hd2 (by omega)
  have HN := Lib.hid hN
  obtain ⟨As, cs, rfl, hls, _⟩ := HN.out.1.len
  obtain ⟨Ak, ck, rfl, hlk, _⟩ := HN.out.2.len
  obtain ⟨w3, hw3⟩ : ∃ w3 : World, w3 = w2.alloc (.cells #[.slice As n.sets.length cs, .slice Ak n.links.length ck] 27) := ⟨_, rfl⟩
  have hx3 : Ext w2 w3 := by rw [hw3]; exact (by repeat (first | exact Ext.refl _ | assumption | refine Ext.alloc ?_ _ | refine Ext.drew ?_ | refine Ext.drewN ?_ _ | refine Ext.setCell ?_ (by first | (simp; done) | (simp; omega) | omega) _ | refine Ext.trans ?_ (by assumption)))
  have hz3 : w3.heap.size = w2.heap.size + 1 := by rw [hw3]; simp
  have hbn : Boxed w3 w2.heap.size [.slice As n.sets.length cs, .slice Ak n.links.length ck] := by rw [hw3]; exact Boxed.new w2 [.slice As n.sets.length cs, .slice Ak n.links.length ck] 27
  have c0 := hbn.at0
  have c1 := hbn.at1
  have Hd3 := Lib.hid ((Hd1.out.trans hd2).ext hx3)
  have hS3 := Lib.hid (hd2.src.ext hx3)
  have HN3 := Lib.hid ((HN.out.ext hx3 (Nat.le_refl _)).wide (Nat.le_refl _) hx3.size)
  have HB3 := Lib.hid (hb2.ext hx3).drew
  clear hd2 hb2 hN hbn
  go_wp2_with fail
  rw [← hw3]
  clear hw3
  have hqg : w.heap.size ≠ g := by omega
  have h02 : 0 < [Value.slice none 0 0, Value.slice none 0 0].length := by simp
  have h12 : 1 < [Value.slice none 0 0, Value.slice none 0 0].length := by simp
  go_region_held3 (fun w' => DrwR b0 g w.heap.size cv cn w3 w' ∧ w'.cell? ⟨w2.heap.size, 0, none⟩ = some (.slice As n.sets.length cs) ∧ w'.cell? ⟨w2.heap.size, 1, none⟩ = some (.slice Ak n.links.length ck))
    (exact DrwR.keep2 (by repeat (first | exact DrwR.refl hS3.out | exact (by assumption : DrwR _ _ _ _ _ w3 _ ∧ _).1 | assumption | refine DrwR.drew ?_ | refine DrwR.alloc ?_ _ | refine DrwR.set ?_ (by omega) (by omega) _ _)) (by omega) (by omega) (by omega) c0 c1)
    (first
      | (go_at_call 87; refine Calls.mono (spec_l01Next _ _ cn _ _ _ (by assumption : DrwR _ _ _ _ _ w3 _ ∧ _).1.src) ?_; rintro e w5 ⟨r5, rfl, -, hd5⟩; have hD5 := (by assumption : DrwR _ _ _ _ _ w3 _ ∧ _).1.drw hd5; have hq5 := Boxed.drw (Hid.out (by assumption : Hid (Boxed _ w.heap.size [.slice none 0 0, .slice none 0 0]))) hd5 hqg; have q0 := hq5.at0; have q1 := hq5.at1; have qf0 := hq5.fz 0 h02; have qf1 := hq5.fz 1 h12; have qz := hq5.1; have Hq5 := Lib.hid hq5; clear hd5 hq5))
  have hR := (by assumption : DrwR _ _ _ _ _ w3 _ ∧ _).1
  have hE := hR.drw_of Hd3.out (Nat.le_refl _)
  have hM := hR.net HN3.out (by omega) (by omega)
  go_wp2_with fail
  refine bodyPost_ret (v := .tuple #[.agg #[.slice As n.sets.length cs, .slice Ak n.links.length ck], _]) (by simp [results, Try.results139, go_sem, *]; exact rfl) rfl ?_
  exact ⟨_, _, n, _, rfl, hE, hM.wide (by omega) (Nat.le_refl _)⟩
set_option maxRecDepth 100000 in
set_option maxHeartbeats 4000000 in
theorem spec_DrawNarrowLink (cn : Nat) (cv : Value) (w : World) (h : Bytes w 0 w.heap.size cv cn) : Calls Try.prog 48 #[cv] w (DNetX w) := by
  obtain ⟨A, c, rfl, _⟩ := h.len
  have H := Lib.hid h
  clear h
  have Hb := Lib.hid (Boxed.new w [.slice none 0 0, .slice none 0 0] 27)
  go_enter Try.func48, Try.ntmps48
  go_wp2_with fail
  refine Calls.mono (spec_l01From cn _ _ (H.out.up (by repeat (first | exact Ext.refl _ | assumption | refine Ext.alloc ?_ _ | refine Ext.drew ?_ | refine Ext.drewN ?_ _ | refine Ext.setCell ?_ (by first | (simp; done) | (simp; omega) | omega) _ | refine Ext.trans ?_ (by assumption))))) ?_
  rintro e w1 ⟨rfl, hx1, hs1⟩
  rw [World.size_alloc] at hs1
  have Hs1 := Lib.hid (hs1.low (b1 := w.heap.size) (by omega) (H.out.ext (by repeat (first | exact Ext.refl _ | assumption | refine Ext.alloc ?_ _ | refine Ext.drew ?_ | refine Ext.drewN ?_ _ | refine Ext.setCell ?_ (by first | (simp; done) | (simp; omega) | omega) _ | refine Ext.trans ?_ (by assumption))) (Nat.le_refl _)))
  have hz1 := hx1.size
  rw [World.size_alloc] at hz1
  have HB1 := Lib.hid (Hb.out.ext hx1)
  have hxw1 : Ext w w1 := (by repeat (first | exact Ext.refl _ | assumption | refine Ext.alloc ?_ _ | refine Ext.drew ?_ | refine Ext.drewN ?_ _ | refine Ext.setCell ?_ (by first | (simp; done) | (simp; omega) | omega) _ | refine Ext.trans ?_ (by assumption)))
  clear hs1
  go_wp2_with fail
  refine Calls.mono (spec_l19DrawLink _ _ cn _ _ Hs1.out) ?_
  rintro e w2 ⟨s, k, n, x, rfl, hd2, hN⟩
  have hxw2 := hd2.old hxw1 (by omega)
  have HN := Lib.hid hN
  have hz2 := hd2.size
  have bb := HB1.out.drw hd2 (by omega)
  have bb0 := bb.at0
  have bb1 := bb.at1
  have bbf0 := bb.fz 0 (by simp)
  have bbf1 := bb.fz 1 (by simp)
  have bbg := bb.1
  have Hbb := Lib.hid bb
  clear bb
  clear hd2 hN
  obtain ⟨As, cs, rfl, _⟩ := HN.out.1.len
  obtain ⟨Ak, ck, rfl, _⟩ := HN.out.2.len
  go_wp2_with fail
  refine bodyPost_ret (v := .tuple #[.agg #[.slice As n.sets.length cs, .slice Ak n.links.length ck], .int .i64 x]) (by simp [results, Try.results48, go_sem, *]) rfl ?_
  exact ⟨_, _, n, x, rfl, (hxw2.setCell (p := ⟨w.heap.size, 0, none⟩) (Nat.le_refl _) _).setCell (p := ⟨w.heap.size, 1, none⟩) (Nat.le_refl _) _, (net_store HN.out (by omega)).wide (by omega) (Nat.le_refl _)⟩
set_option maxRecDepth 100000 in
set_option maxHeartbeats 4000000 in
theorem spec_DrawPartnerDays (cn : Nat) (cv : Value) (w : World) (h : Bytes w 0 w.heap.size cv cn) : Calls Try.prog 45 #[cv] w (DNetXB w) := by
  obtain ⟨A, c, rfl, _⟩ := h.len
  have H := Lib.hid h
  clear h
  have Hb := Lib.hid (Boxed.new w [.slice none 0 0, .slice none 0 0] 27)
  go_enter Try.func45, Try.ntmps45
  go_wp2_with fail
  refine Calls.mono (spec_l01From cn _ _ (H.out.up (by repeat (first | exact Ext.refl _ | assumption | refine Ext.alloc ?_ _ | refine Ext.drew ?_ | refine Ext.drewN ?_ _ | refine Ext.setCell ?_ (by first | (simp; done) | (simp; omega) | omega) _ | refine Ext.trans ?_ (by assumption))))) ?_
  rintro e w1 ⟨rfl, hx1, hs1⟩
  rw [World.size_alloc] at hs1
  have Hs1 := Lib.hid (hs1.low (b1 := w.heap.size) (by omega) (H.out.ext (by repeat (first | exact Ext.refl _ | assumption | refine Ext.alloc ?_ _ | refine Ext.drew ?_ | refine Ext.drewN ?_ _ | refine Ext.setCell ?_ (by first | (simp; done) | (simp; omega) | omega) _ | refine Ext.trans ?_ (by assumption))) (Nat.le_refl _)))
  have hz1 := hx1.size
  rw [World.size_alloc] at hz1
  have HB1 := Lib.hid (Hb.out.ext hx1)
  have hxw1 : Ext w w1 := (by repeat (first | exact Ext.refl _ | assumption | refine Ext.alloc ?_ _ | refine Ext.drew ?_ | refine Ext.drewN ?_ _ | refine Ext.setCell ?_ (by first | (simp; done) | (simp; omega) | omega) _ | refine Ext.trans ?_ (by assumption)))
  clear hs1
  go_wp2_with fail
  refine Calls.mono (spec_l19DrawLink _ _ cn _ _ Hs1.out) ?_
  rintro e w2 ⟨s, k, n, x, rfl, hd2, hN⟩
  have hx2 := hd2.old hxw1 (by omega)
  have hz2 := hd2.size
  have hgl := Hs1.out.lt
  have hb2 := HB1.out.drw hd2 (by omega)
  have HN := Lib.hid hN
  obtain ⟨As, cs, rfl, _⟩ := HN.out.1.len
  obtain ⟨Ak, ck, rfl, _⟩ := HN.out.2.len
  obtain ⟨w3, hw3⟩ : ∃ w3 : World, w3 = w2.alloc (.cells #[.slice As n.sets.length cs, .slice Ak n.links.length ck] 27) := ⟨_, rfl⟩
  have hx3 : Ext w2 w3 := by rw [hw3]; exact (by repeat (first | exact Ext.refl _ | assumption | refine Ext.alloc ?_ _ | refine Ext.drew ?_ | refine Ext.drewN ?_ _ | refine Ext.setCell ?_ (by first | (simp; done) | (simp; omega) | omega) _ | refine Ext.trans ?_ (by assumption)))
  have hz3 : w3.heap.size = w2.heap.size + 1 := by rw [hw3]; simp
  have hbn : Boxed w3 w2.heap.size [.slice As n.sets.length cs, .slice Ak n.links.length ck] := by rw [hw3]; exact Boxed.new w2 [.slice As n.sets.length cs, .slice Ak n.links.length ck] 27
  have c0 := hbn.at0
  have c1 := hbn.at1
  have hS3 := Lib.hid (hd2.src.ext hx3)
  have HN3 := Lib.hid ((HN.out.ext hx3 (Nat.le_refl _)).wide (Nat.le_refl _) hx3.size)
  have HB3 := Lib.hid (hb2.ext hx3).drew
  clear hd2 hb2 hN hbn
  go_wp2_with fail
  rw [← hw3]
  clear hw3
  have hqg : w.heap.size ≠ w.heap.size + 1 := by omega
  have h02 : 0 < [Value.slice none 0 0, Value.slice none 0 0].length := by simp
  have h12 : 1 < [Value.slice none 0 0, Value.slice none 0 0].length := by simp
  go_region_held3 (fun w' => DrwR w.heap.size (w.heap.size + 1) w.heap.size (.slice A cn c) cn w3 w' ∧ w'.cell? ⟨w2.heap.size, 0, none⟩ = some (.slice As n.sets.length cs) ∧ w'.cell? ⟨w2.heap.size, 1, none⟩ = some (.slice Ak n.links.length ck))
    (exact DrwR.keep2 (by repeat (first | exact DrwR.refl hS3.out | exact (by assumption : DrwR _ _ _ _ _ w3 _ ∧ _).1 | assumption | refine DrwR.drew ?_ | refine DrwR.alloc ?_ _ | refine DrwR.set ?_ (by omega) (by omega) _ _)) (by omega) (by omega) (by omega) c0 c1)
    (first
      | (go_at_call 87; refine Calls.mono (spec_l01Next _ _ cn _ _ _ (by assumption : DrwR _ _ _ _ _ w3 _ ∧ _).1.src) ?_; rintro e w5 ⟨r5, rfl, -, hd5⟩; have hD5 := (by assumption : DrwR _ _ _ _ _ w3 _ ∧ _).1.drw hd5; have hq5 := Boxed.drw (Hid.out (by assumption : Hid (Boxed _ w.heap.size [.slice none 0 0, .slice none 0 0]))) hd5 hqg; have q0 := hq5.at0; have q1 := hq5.at1; have qf0 := hq5.fz 0 h02; have qf1 := hq5.fz 1 h12; have qz := hq5.1; have Hq5 := Lib.hid hq5; clear hd5 hq5))
  have hR := (by assumption : DrwR _ _ _ _ _ w3 _ ∧ _).1
  have hE := hR.old (show Ext w w3 from hx2.trans hx3) (by omega) (Nat.le_refl _)
  have hM := (hR.net HN3.out (by omega) (by omega)).wide (show w.heap.size ≤ _ by omega) (Nat.le_refl _)
  go_wp2_with fail
  refine bodyPost_ret (v := .tuple #[.agg #[.slice As n.sets.length cs, .slice Ak n.links.length ck], .int .i64 x, .bool _]) (by simp [results, Try.results45, go_sem, *]; exact rfl) rfl ?_
  exact ⟨_, _, n, x, _, rfl, hE, hM⟩
end Go.Proofs.Ytfajmlkiidnhlaa
