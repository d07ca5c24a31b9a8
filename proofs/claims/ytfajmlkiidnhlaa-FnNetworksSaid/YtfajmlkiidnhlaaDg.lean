/- Contracts: networks that are drawn from a code (the layers of networks and of narrowing). -/
import Derived.Test.YtfajmlkiidnhlaaDd
namespace Go.Proofs.Ytfajmlkiidnhlaa
set_option linter.unusedVariables false
set_option linter.unusedSimpArgs false
open Go.RowKit
attribute [local go_sem] cell_onto

theorem Bytes.up {w w' : World} {n : Nat} {v : Value} (h : Bytes w 0 w.heap.size v n) (hx : Ext w w') : Bytes w' 0 w'.heap.size v n := by
  obtain ⟨h0, f, h1, h2⟩ := h.ext hx (Nat.le_refl _)
  exact ⟨h0, f, h1.mono (Nat.le_refl _) hx.size, h2⟩
theorem NetAt.drw {b0 g cn lo hi : Nat} {cv s k : Value} {n : Net} {w w' : World} (h : NetAt w lo hi s k n) (hx : Drw b0 g cv cn w w') (hg : g < lo) (hh : hi ≤ w.heap.size) : NetAt w' lo hi s k n :=
  h.off hx.off (fun x h1 _ hh => by have e : x = g := hh; omega) hh
theorem NetAt.wide {lo hi lo' hi' : Nat} {s k : Value} {n : Net} {w : World} (h : NetAt w lo hi s k n) (h1 : lo' ≤ lo) (h2 : hi ≤ hi') : NetAt w lo' hi' s k n := ⟨h.1.mono h1 h2, h.2.mono h1 h2⟩
/-- what a draw of a network out of a code returns -/
def DNet (P : Net → Prop) (w : World) (e : Ending) (w' : World) : Prop :=
  ∃ (s k : Value) (n : Net), e = .returned (.agg #[s, k]) ∧ Ext w w' ∧ Few n ∧ P n ∧ NetAt w' w.heap.size w'.heap.size s k n
/-- .. and one thing more -/
def DNetV (P : Net → Value → Prop) (w : World) (e : Ending) (w' : World) : Prop :=
  ∃ (s k v : Value) (n : Net), e = .returned (.tuple #[.agg #[s, k], v]) ∧ Ext w w' ∧ Few n ∧ P n v ∧ NetAt w' w.heap.size w'.heap.size s k n
/-- .. and two things more -/
def DNetVV (P : Net → Value → Value → Prop) (w : World) (e : Ending) (w' : World) : Prop :=
  ∃ (s k v u : Value) (n : Net), e = .returned (.tuple #[.agg #[s, k], v, u]) ∧ Ext w w' ∧ Few n ∧ P n v u ∧ NetAt w' w.heap.size w'.heap.size s k n
/-- the result's box is written: what was drawn stays -/
theorem net_store {gR lo : Nat} {s k a b : Value} {n : Net} {w : World} (h : NetAt w lo w.heap.size s k n) (hg : gR < lo) : NetAt ((w.setCell ⟨gR, 0, none⟩ a).setCell ⟨gR, 1, none⟩ b) lo ((w.setCell ⟨gR, 0, none⟩ a).setCell ⟨gR, 1, none⟩ b).heap.size s k n := by
  have hO : Off (One gR) w ((w.setCell ⟨gR, 0, none⟩ a).setCell ⟨gR, 1, none⟩ b) := Off.setCell (S := One gR) (p := ⟨gR, 1, none⟩) (Off.setCell (S := One gR) (p := ⟨gR, 0, none⟩) (Off.refl _ _) (.inl rfl) _) (.inl rfl) _
  exact (h.off hO (fun x h1 _ hh => by have e : x = gR := hh; omega) (Nat.le_refl _)).wide (Nat.le_refl _) hO.size
/-! ### the source and one box have turned -/
structure DrwR (b0 g q : Nat) (cv : Value) (cn : Nat) (w w' : World) : Prop where
  off : Off (fun k => k = g ∨ k = q) w w'
  src : Src b0 g cv cn w'
section
variable {b0 g q cn : Nat} {cv : Value} {w w' w'' : World}
theorem DrwR.refl (h : Src b0 g cv cn w) : DrwR b0 g q cv cn w w := ⟨Off.refl _ _, h⟩
theorem DrwR.of (h : Drw b0 g cv cn w w') : DrwR b0 g q cv cn w w' := ⟨h.off.mono (fun _ hk => .inl hk), h.src⟩
theorem DrwR.drw (h : DrwR b0 g q cv cn w w') (k : Drw b0 g cv cn w' w'') : DrwR b0 g q cv cn w w'' := ⟨h.off.trans (k.off.mono (fun _ hk => .inl hk)), k.src⟩
theorem DrwR.ext (h : DrwR b0 g q cv cn w w') (hx : Ext w' w'') : DrwR b0 g q cv cn w w'' := ⟨h.off.trans (Off.of_ext hx), h.src.ext hx⟩
theorem DrwR.alloc (h : DrwR b0 g q cv cn w w') (o : Obj) : DrwR b0 g q cv cn w (w'.alloc o) := h.ext ((Ext.refl _).alloc o)
theorem DrwR.drew (h : DrwR b0 g q cv cn w w') : DrwR b0 g q cv cn w w'.drew := h.ext (Ext.refl _).drew
theorem Src.at_box (h : Src b0 g cv cn w) (hq : q ≠ g) (hb : b0 ≤ q) (i : Nat) (u : Value) : Src b0 g cv cn (w.setCell ⟨q, i, none⟩ u) := by
  obtain ⟨j, s, h1, h2⟩ := h.box
  have hl := h.lt
  have h0 := h.lo
  exact ⟨h.lo, h.code.off (S := One q) (Off.setCell (S := One q) (p := ⟨q, i, none⟩) (Off.refl _ _) (.inl rfl) u) (fun k _ hk hh => by have e : k = q := hh; omega) (by omega), j, s, h1.setOther (p := ⟨q, i, none⟩) (Ne.symm hq) u, h2⟩
theorem DrwR.set (h : DrwR b0 g q cv cn w w') (hq : q ≠ g) (hb : b0 ≤ q) (i : Nat) (u : Value) : DrwR b0 g q cv cn w (w'.setCell ⟨q, i, none⟩ u) :=
  ⟨h.off.setCell (p := ⟨q, i, none⟩) (.inl (.inr rfl)) u, h.src.at_box hq hb i u⟩
theorem DrwR.size (h : DrwR b0 g q cv cn w w') : w.heap.size ≤ w'.heap.size := h.off.size
theorem DrwR.cell (h : DrwR b0 g q cv cn w w') {b o : Nat} (hb : b < w.heap.size) (hg : b ≠ g) (hq : b ≠ q) : w'.cell? ⟨b, o, none⟩ = w.cell? ⟨b, o, none⟩ := h.off.cell (p := ⟨b, o, none⟩) hb (fun hh => hh.elim hg hq)
theorem DrwR.keep2 {p : Nat} {a b : Value} (h : DrwR b0 g q cv cn w w') (hb : p < w.heap.size) (hg : p ≠ g) (hq : p ≠ q) (c0 : w.cell? ⟨p, 0, none⟩ = some a) (c1 : w.cell? ⟨p, 1, none⟩ = some b) :
    DrwR b0 g q cv cn w w' ∧ w'.cell? ⟨p, 0, none⟩ = some a ∧ w'.cell? ⟨p, 1, none⟩ = some b := ⟨h, (h.cell hb hg hq).trans c0, (h.cell hb hg hq).trans c1⟩
theorem DrwR.old {a : World} (h : DrwR b0 g q cv cn w w') (ha : Ext a w) (hg : a.heap.size ≤ g) (hq : a.heap.size ≤ q) : Ext a w' := ha.off h.off (fun k hk hh => by omega)
theorem DrwR.net {lo : Nat} {s k : Value} {n : Net} (h : DrwR b0 g q cv cn w w') (hn : NetAt w lo w.heap.size s k n) (hg : g < lo) (hq : q < lo) : NetAt w' lo w'.heap.size s k n :=
  (hn.off h.off (fun x h1 _ hh => by omega) (Nat.le_refl _)).wide (Nat.le_refl _) h.size
theorem Boxed.drew {p : Nat} {cs : List Value} (h : Boxed w p cs) : Boxed w.drew p cs := h.ext (Ext.refl _).drew
/-- the source, seen from where the code ends -/
theorem Src.low {b1 : Nat} (h : Src b0 g cv cn w) (hb : b1 ≤ g) (hc : Bytes w 0 b1 cv cn) : Src b1 g cv cn w := ⟨hb, hc, h.box⟩
end
set_option maxHeartbeats 1000000 in
theorem spec_DrawEmptyVariables (cn : Nat) (cv : Value) (w : World) (h : Bytes w 0 w.heap.size cv cn) : Calls Try.prog 51 #[cv] w (DNet (fun _ => True) w) := by
  obtain ⟨A, c, rfl, _⟩ := h.len
  have H := Lib.hid h
  clear h
  have Hb := Lib.hid (Boxed.new w [.slice none 0 0, .slice none 0 0] 27)
  go_enter Try.func51, Try.ntmps51
  go_wp2_with fail
  refine Calls.mono (spec_l01From cn _ _ (H.out.up (by repeat (first | exact Ext.refl _ | assumption | refine Ext.alloc ?_ _ | refine Ext.drew ?_ | refine Ext.drewN ?_ _ | refine Ext.setCell ?_ (by first | (simp; done) | (simp; omega) | omega) _ | refine Ext.trans ?_ (by assumption))))) ?_
  rintro e w1 ⟨rfl, hx1, hs1⟩
  rw [World.size_alloc] at hs1
  have Hs1 := Lib.hid hs1
  have hz1 := hx1.size
  clear hs1
  go_wp2_with fail
  refine Calls.mono (spec_l18Draw _ _ cn _ w1 Hs1.out) ?_
  rintro e w2 hd2
  obtain ⟨s, k, n, rfl, hd2, hf, hN⟩ := hd2.now Hs1.out.lt
  have hx2 : Ext w w2 := by
    have := Drw.old hd2 hx1 (by simp)
    exact (by repeat (first | exact Ext.refl _ | assumption | refine Ext.alloc ?_ _ | refine Ext.drew ?_ | refine Ext.drewN ?_ _ | refine Ext.setCell ?_ (by first | (simp; done) | (simp; omega) | omega) _ | refine Ext.trans ?_ (by assumption)))
  have hb2 := (Hb.out.ext (show Ext (w.alloc (.cells #[.slice none 0 0, .slice none 0 0] 27)) w1 from (by repeat (first | exact Ext.refl _ | assumption | refine Ext.alloc ?_ _ | refine Ext.drew ?_ | refine Ext.drewN ?_ _ | refine Ext.setCell ?_ (by first | (simp; done) | (simp; omega) | omega) _ | refine Ext.trans ?_ (by assumption))))).drw hd2 (by simp)
  have c0 := hb2.at0
  have c1 := hb2.at1
  have f0 := hb2.fz 0 (by simp)
  have f1 := hb2.fz 1 (by simp)
  have HN := Lib.hid hN
  clear hN hd2 hb2
  obtain ⟨As, cs, rfl, _⟩ := HN.out.1.len
  obtain ⟨Ak, ck, rfl, _⟩ := HN.out.2.len
  have hw := hx2.size
  go_wp2_with fail
  refine bodyPost_ret (v := .agg #[.slice As n.sets.length cs, .slice Ak n.links.length ck]) (by simp [results, Try.results51, go_sem, *]) rfl ?_
  exact ⟨_, _, n, rfl, (by repeat (first | exact Ext.refl _ | assumption | refine Ext.alloc ?_ _ | refine Ext.drew ?_ | refine Ext.drewN ?_ _ | refine Ext.setCell ?_ (by first | (simp; done) | (simp; omega) | omega) _ | refine Ext.trans ?_ (by assumption))), hf, trivial, (net_store HN.out (by omega)).wide (by omega) (Nat.le_refl _)⟩
set_option maxRecDepth 100000 in
set_option maxHeartbeats 2000000 in
theorem spec_DrawTightestGap (cn : Nat) (cv : Value) (w : World) (h : Bytes w 0 w.heap.size cv cn) : Calls Try.prog 16 #[cv] w (DNetVV (fun _ v u => ∃ a b : Int, v = .int .i64 a ∧ u = .int .i64 b) w) := by
  obtain ⟨A, c, rfl, _⟩ := h.len
  have H := Lib.hid h
  clear h
  have Hb := Lib.hid (Boxed.new w [.slice none 0 0, .slice none 0 0] 27)
  go_enter Try.func16, Try.ntmps16
  go_wp2_with fail
  refine Calls.mono (spec_l01From cn _ _ (H.out.up (by repeat (first | exact Ext.refl _ | assumption | refine Ext.alloc ?_ _ | refine Ext.drew ?_ | refine Ext.drewN ?_ _ | refine Ext.setCell ?_ (by first | (simp; done) | (simp; omega) | omega) _ | refine Ext.trans ?_ (by assumption))))) ?_
  rintro e w1 ⟨rfl, hx1, hs1⟩
  rw [World.size_alloc] at hs1
  have Hs1 := Lib.hid (hs1.low (b1 := w.heap.size) (by omega) (H.out.ext (by repeat (first | exact Ext.refl _ | assumption | refine Ext.alloc ?_ _ | refine Ext.drew ?_ | refine Ext.drewN ?_ _ | refine Ext.setCell ?_ (by first | (simp; done) | (simp; omega) | omega) _ | refine Ext.trans ?_ (by assumption))) (Nat.le_refl _)))
  have hz1 := hx1.size
  clear hs1
  go_wp2_with fail
  refine Calls.mono (spec_l18Draw _ _ cn _ w1 Hs1.out) ?_
  rintro e w2 hD
  obtain ⟨s, k, n, rfl, hd2, hf, hN⟩ := hD.now Hs1.out.lt
  clear hD
  have hx2 : Ext w w2 := by
    have := Drw.old hd2 hx1 (by simp)
    exact (by repeat (first | exact Ext.refl _ | assumption | refine Ext.alloc ?_ _ | refine Ext.drew ?_ | refine Ext.drewN ?_ _ | refine Ext.setCell ?_ (by first | (simp; done) | (simp; omega) | omega) _ | refine Ext.trans ?_ (by assumption)))
  have hb2 := (Hb.out.ext (show Ext (w.alloc (.cells #[.slice none 0 0, .slice none 0 0] 27)) w1 from (by repeat (first | exact Ext.refl _ | assumption | refine Ext.alloc ?_ _ | refine Ext.drew ?_ | refine Ext.drewN ?_ _ | refine Ext.setCell ?_ (by first | (simp; done) | (simp; omega) | omega) _ | refine Ext.trans ?_ (by assumption))))).drw hd2 (by simp)
  have HN := Lib.hid hN
  obtain ⟨As, cs, rfl, _⟩ := HN.out.1.len
  obtain ⟨Ak, ck, rfl, _⟩ := HN.out.2.len
  obtain ⟨w3, hw3⟩ : ∃ w3 : World, w3 = w2.alloc (.cells #[.slice As n.sets.length cs, .slice Ak n.links.length ck] 27) := ⟨_, rfl⟩
  have hx3 : Ext w2 w3 := by rw [hw3]; exact (by repeat (first | exact Ext.refl _ | assumption | refine Ext.alloc ?_ _ | refine Ext.drew ?_ | refine Ext.drewN ?_ _ | refine Ext.setCell ?_ (by first | (simp; done) | (simp; omega) | omega) _ | refine Ext.trans ?_ (by assumption)))
  have hz3 : w3.heap.size = w2.heap.size + 1 := by rw [hw3]; simp
  have hbn : Boxed w3 w2.heap.size [.slice As n.sets.length cs, .slice Ak n.links.length ck] := by rw [hw3]; exact Boxed.new w2 [.slice As n.sets.length cs, .slice Ak n.links.length ck] 27
  have hw := hx2.size
  have hgl := hd2.src.lt
  have c0 := hbn.at0
  have c1 := hbn.at1
  have hS3 := Lib.hid (hd2.src.ext hx3)
  have HN3 := Lib.hid ((HN.out.ext hx3 (Nat.le_refl _)).wide (Nat.le_refl _) hx3.size)
  have HB3 := Lib.hid (hb2.ext hx3).drew
  clear hd2 hb2 hN hbn
  go_wp2_with fail
  rw [← hw3]
  clear hw3
  have hqg : w.heap.size ≠ w.heap.size + 1 := by omega
  have h02 : 0 < [Value.slice none 0 0, Value.slice none 0 0].length := by simp
  have h12 : 1 < [Value.slice none 0 0, Value.slice none 0 0].length := by simp
  go_region_held3 (fun w' => DrwR w.heap.size (w.heap.size + 1) w.heap.size (.slice A cn c) cn w3 w' ∧ w'.cell? ⟨w2.heap.size, 0, none⟩ = some (.slice As n.sets.length cs) ∧ w'.cell? ⟨w2.heap.size, 1, none⟩ = some (.slice Ak n.links.length ck))
    (exact DrwR.keep2 (by repeat (first | exact DrwR.refl hS3.out | exact (by assumption : DrwR _ _ _ _ _ w3 _ ∧ _).1 | assumption | refine DrwR.drew ?_ | refine DrwR.alloc ?_ _ | refine DrwR.set ?_ (by omega) (by omega) _ _)) (by omega) (by omega) (by omega) c0 c1)
    (first
      | (go_at_call 87; refine Calls.mono (spec_l01Next _ _ cn _ _ _ (by assumption : DrwR _ _ _ _ _ w3 _ ∧ _).1.src) ?_; rintro e w5 ⟨r5, rfl, -, hd5⟩; have hD5 := (by assumption : DrwR _ _ _ _ _ w3 _ ∧ _).1.drw hd5; have hq5 := Boxed.drw (Hid.out (by assumption : Hid (Boxed _ w.heap.size [.slice none 0 0, .slice none 0 0]))) hd5 hqg; have q0 := hq5.at0; have q1 := hq5.at1; have qf0 := hq5.fz 0 h02; have qf1 := hq5.fz 1 h12; have qz := hq5.1; have Hq5 := Lib.hid hq5; clear hd5 hq5))
  have hR := (by assumption : DrwR _ _ _ _ _ w3 _ ∧ _).1
  have hE := hR.old (show Ext w w3 from (by repeat (first | exact Ext.refl _ | assumption | refine Ext.alloc ?_ _ | refine Ext.drew ?_ | refine Ext.drewN ?_ _ | refine Ext.setCell ?_ (by first | (simp; done) | (simp; omega) | omega) _ | refine Ext.trans ?_ (by assumption)))) (by omega) (Nat.le_refl _)
  have hM := (hR.net HN3.out (by omega) (by omega)).wide (show w.heap.size ≤ _ by omega) (Nat.le_refl _)
  go_wp2_with fail
  refine bodyPost_ret (v := .tuple #[.agg #[.slice As n.sets.length cs, .slice Ak n.links.length ck], _, _]) (by simp [results, Try.results16, go_sem, *]; exact ⟨rfl, rfl⟩) rfl ?_
  exact ⟨_, _, _, _, n, rfl, hE, hf, ⟨_, _, rfl, rfl⟩, hM⟩
/-- .. and a list of whole numbers -/
def DNetI (w : World) (e : Ending) (w' : World) : Prop :=
  ∃ (s k v : Value) (n : Net) (l : List Int), e = .returned (.tuple #[.agg #[s, k], v]) ∧ Ext w w' ∧ Few n ∧ NetAt w' w.heap.size w'.heap.size s k n ∧ Ints w' w.heap.size w'.heap.size v l
theorem own_ints {w : World} {base T n : Nat} {v : Value} {l : List Int} (h : w.ownsRow base T 1 v n (cellsOf (l.length * 1) (intCell l))) (hn : n = l.length) : Ints w base w.heap.size v l := by
  subst hn
  obtain ⟨g, h1, h2⟩ := Own.of_owned h
  exact h2.row (fun h0 => ⟨(h1 h0).2, h2.lt h0⟩)
theorem own_set0 {w : World} {g off N c : Nat} {l : List Int} (h : Own w g 1 (.slice (some ⟨g, off, none⟩) N c) N (intCell l)) (hx : l.length = N) (h0 : 0 < N) (a : Int) : Own (w.setCell ⟨g, off, none⟩ (.int .i64 a)) g 1 (.slice (some ⟨g, off, none⟩) N c) N (intCell (l.set 0 a)) := by
  have h2 := h.set 0 (.int .i64 a) (by omega)
  refine h2.congr (fun i hi => ?_)
  unfold intCell inAt
  rw [List.getD_eq_getElem?_getD, List.getD_eq_getElem?_getD]
  by_cases e : i = 0
  · subst e
    rw [if_pos rfl, List.getElem?_set_self (by omega)]
    rfl
  · rw [if_neg e, List.getElem?_set_ne (by omega)]
theorem DNetI.fin {b0 g q cn lo : Nat} {cv s k v : Value} {n : Net} {l : List Int} {w w3 wz : World} (hx : Ext w w3) (hd : Drw b0 g cv cn w3 wz) (hN : NetAt w3 lo w3.heap.size s k n) (hg : g < lo) (hq : q < lo) (hwq : w.heap.size ≤ q) (hwg : w.heap.size ≤ g)
    (hI : Ints wz lo wz.heap.size v l) (hf : Few n) : DNetI w (.returned (.tuple #[.agg #[s, k], v])) ((wz.setCell ⟨q, 0, none⟩ s).setCell ⟨q, 1, none⟩ k) := by
  have hE := hd.old hx hwg
  have hO : Off (One q) wz ((wz.setCell ⟨q, 0, none⟩ s).setCell ⟨q, 1, none⟩ k) := Off.setCell (S := One q) (p := ⟨q, 1, none⟩) (Off.setCell (S := One q) (p := ⟨q, 0, none⟩) (Off.refl _ _) (.inl rfl) _) (.inl rfl) _
  refine ⟨s, k, v, n, l, rfl, (hE.setCell (p := ⟨q, 0, none⟩) hwq _).setCell (p := ⟨q, 1, none⟩) hwq _, hf, ?_, ?_⟩
  · exact (net_store ((hN.drw hd hg (Nat.le_refl _)).wide (Nat.le_refl _) hd.size) hq).wide (by omega) (Nat.le_refl _)
  · exact (Row.off hI hO (fun x h1 _ hh => by have e : x = q := hh; omega) (Nat.le_refl _)).mono (by omega) hO.size
set_option maxRecDepth 100000 in
set_option maxHeartbeats 2000000 in
theorem spec_DrawDoSolve (cn : Nat) (cv : Value) (w : World) (h : Bytes w 0 w.heap.size cv cn) : Calls Try.prog 11 #[cv] w (DNetI w) := by
  obtain ⟨A, c, rfl, _⟩ := h.len
  have H := Lib.hid h
  clear h
  have Hb := Lib.hid (Boxed.new w [.slice none 0 0, .slice none 0 0] 27)
  go_enter Try.func11, Try.ntmps11
  go_wp2_with fail
  refine Calls.mono (spec_l01From cn _ _ (H.out.up (by repeat (first | exact Ext.refl _ | assumption | refine Ext.alloc ?_ _ | refine Ext.drew ?_ | refine Ext.drewN ?_ _ | refine Ext.setCell ?_ (by first | (simp; done) | (simp; omega) | omega) _ | refine Ext.trans ?_ (by assumption))))) ?_
  rintro e w1 ⟨rfl, hx1, hs1⟩
  rw [World.size_alloc] at hs1
  have Hs1 := Lib.hid (hs1.low (b1 := w.heap.size) (by omega) (H.out.ext (by repeat (first | exact Ext.refl _ | assumption | refine Ext.alloc ?_ _ | refine Ext.drew ?_ | refine Ext.drewN ?_ _ | refine Ext.setCell ?_ (by first | (simp; done) | (simp; omega) | omega) _ | refine Ext.trans ?_ (by assumption))) (Nat.le_refl _)))
  have hz1 := hx1.size
  clear hs1
  go_wp2_with fail
  refine Calls.mono (spec_l18Draw _ _ cn _ w1 Hs1.out) ?_
  rintro e w2 hD
  obtain ⟨s, k, n, rfl, hd2, hf, hN⟩ := hD.now Hs1.out.lt
  clear hD
  have hx2 : Ext w w2 := by
    have := Drw.old hd2 hx1 (by simp)
    exact (by repeat (first | exact Ext.refl _ | assumption | refine Ext.alloc ?_ _ | refine Ext.drew ?_ | refine Ext.drewN ?_ _ | refine Ext.setCell ?_ (by first | (simp; done) | (simp; omega) | omega) _ | refine Ext.trans ?_ (by assumption)))
  have hb2 := (Hb.out.ext (show Ext (w.alloc (.cells #[.slice none 0 0, .slice none 0 0] 27)) w1 from (by repeat (first | exact Ext.refl _ | assumption | refine Ext.alloc ?_ _ | refine Ext.drew ?_ | refine Ext.drewN ?_ _ | refine Ext.setCell ?_ (by first | (simp; done) | (simp; omega) | omega) _ | refine Ext.trans ?_ (by assumption))))).drw hd2 (by simp)
  have HN := Lib.hid hN
  obtain ⟨As, cs, rfl, _⟩ := HN.out.1.len
  obtain ⟨Ak, ck, rfl, _⟩ := HN.out.2.len
  obtain ⟨w3, hw3⟩ : ∃ w3 : World, w3 = w2.alloc (.cells #[.slice As n.sets.length cs, .slice Ak n.links.length ck] 27) := ⟨_, rfl⟩
  have hx3 : Ext w2 w3 := by rw [hw3]; exact (by repeat (first | exact Ext.refl _ | assumption | refine Ext.alloc ?_ _ | refine Ext.drew ?_ | refine Ext.drewN ?_ _ | refine Ext.setCell ?_ (by first | (simp; done) | (simp; omega) | omega) _ | refine Ext.trans ?_ (by assumption)))
  have hz3 : w3.heap.size = w2.heap.size + 1 := by rw [hw3]; simp
  have hbn : Boxed w3 w2.heap.size [.slice As n.sets.length cs, .slice Ak n.links.length ck] := by rw [hw3]; exact Boxed.new w2 [.slice As n.sets.length cs, .slice Ak n.links.length ck] 27
  have hw := hx2.size
  have hgl := hd2.src.lt
  have c0 := hbn.at0
  have c1 := hbn.at1
  have hS3 := Lib.hid (hd2.src.ext hx3)
  have HN3 := Lib.hid ((HN.out.ext hx3 (Nat.le_refl _)).wide (Nat.le_refl _) hx3.size)
  have HB3 := Lib.hid (hb2.ext hx3)
  have HBN := Lib.hid hbn
  have h8 : n.sets.length ≤ 1000 := by have := hf.1; omega
  clear hd2 hb2 hN hbn
  go_wp2_with fail
  rw [← hw3]
  clear hw3
  go_wp2_with fail
  refine Calls.mono (spec_l18DrawDays _ _ cn (w.heap.size + 1 + 1) w3.heap.size _ _ _ n w3 hS3.out HN3.out.1 (by omega) (Nat.le_refl _) h8) ?_
  rintro e w4 ⟨dv, ds, rfl, hd4, hds, hrow4⟩
  have hdl : ds.length ≤ 1000 := by have e : ds.length = n.sets.length := hds; omega
  clear hds
  obtain ⟨Ad, cd, rfl⟩ := ownsRow_len hrow4
  have Hd4 := Lib.hid hd4
  have Hr4 := Lib.hid hrow4
  have hz4 := hd4.size
  clear hd4 hrow4
  go_wp2_with fail
  refine Calls.mono (spec_l01Next _ _ cn _ 40 w4 Hd4.out.src) ?_
  rintro e w5 ⟨r, rfl, -, hd5⟩
  have Hd5 := Lib.hid (Hd4.out.trans hd5)
  have Hr5 := Lib.hid (ownsRow_drw Hr4.out hd5 (by omega))
  have hz5 := hd5.size
  clear hd5 Hr4
  by_cases z0 : r = 0
  · subst z0
    have hbq := HB3.out.drw (Hd5.out) (by omega)
    have q0 := hbq.at0
    have q1 := hbq.at1
    have qf0 := hbq.fz 0 (by simp)
    have qf1 := hbq.fz 1 (by simp)
    have hbm := HBN.out.drw (Hd5.out) (by omega)
    have m0 := hbm.at0
    have m1 := hbm.at1
    have hqz := hbq.1
    have hmz := hbm.1
    clear hbq hbm
    go_wp2_with (at_builtin; refine wpList_append_row _ rfl _ _ 28 rfl w3.heap.size 2 1 8 Try.underlying28 (by kernel_rfl) (by omega) _ ds.length 1 _ rfl (.inl (row_ext Hr5.out (by repeat (first | exact Ext.refl _ | assumption | refine Ext.alloc ?_ _ | refine Ext.drew ?_ | refine Ext.drewN ?_ _ | refine Ext.setCell ?_ (by first | (simp; done) | (simp; omega) | omega) _ | refine Ext.trans ?_ (by assumption))))) (.inr (by omega)) 0 _ _ (intCell [5]) rfl ((Boxed.new w5 [.int .i64 5] 2).row rfl (one_int _)) (fun _ _ => rfl) (by unfold maxLen; omega) (by omega) (by simp; omega) ?_; intro v9 w9 hown9 hput9; obtain ⟨A9, c9, rfl⟩ := ownsRow_len hown9; have Hr9 := Lib.hid (intRow_push hown9); have Hd9 := Lib.hid ((Hd5.out.alloc _).put (by omega) hput9 (Nat.le_refl _)); have Hx9 := Lib.hid ((HB3.out.drw Hd9.out (by omega)).at0); have q0 := Hx9.out; have q1 := (HB3.out.drw Hd9.out (by omega)).at1; have qf0 := (HB3.out.drw Hd9.out (by omega)).fz 0 (by simp); have qf1 := (HB3.out.drw Hd9.out (by omega)).fz 1 (by simp); have m0 := (HBN.out.drw Hd9.out (by omega)).at0; have m1 := (HBN.out.drw Hd9.out (by omega)).at1; have hqz := (HB3.out.drw Hd9.out (by omega)).1; clear hown9 hput9)
    refine bodyPost_ret (v := .tuple #[.agg #[.slice As n.sets.length cs, .slice Ak n.links.length ck], .slice A9 (ds.length + 1) c9]) (by simp [results, Try.results11, go_sem, *]) rfl ?_
    exact DNetI.fin (lo := w.heap.size + 1 + 1) (show Ext w w3 from (by repeat (first | exact Ext.refl _ | assumption | refine Ext.alloc ?_ _ | refine Ext.drew ?_ | refine Ext.drewN ?_ _ | refine Ext.setCell ?_ (by first | (simp; done) | (simp; omega) | omega) _ | refine Ext.trans ?_ (by assumption)))) Hd9.out HN3.out (by omega) (by omega) (Nat.le_refl _) (by omega) ((own_ints Hr9.out (by simp)).mono (by omega) (Nat.le_refl _)) hf
  · have z0' : (r == 0) = false := by simpa using z0
    by_cases z1 : r = 1
    · subst z1
      by_cases hl0 : 0 < ds.length
      · have hl0i : (0 : Int) < (ds.length : Int) := by omega
        obtain ⟨gd, hgd, ho⟩ := Own.of_owned Hr5.out
        obtain ⟨off, rfl, hgz, hcell⟩ := ho.at_ hl0
        have hgd' := (hgd hl0).2
        have hpk := box_pick (b0 := w.heap.size) (g := w.heap.size + 1) (cn := cn) (cv := .slice A cn c) [-1, 730499, 730500] (Boxed.new w5 [.int .i64 (-1), .int .i64 730499, .int .i64 730500] 2) (by simp) (by omega)
        have Hpk := Lib.hid hpk
        have Ho := Lib.hid ho
        clear hpk ho hcell
        go_wp2_with fail
        refine Calls.mono (spec_l01Pick _ _ cn _ _ [-1, 730499, 730500] _ (Hd5.out.alloc _).src Hpk.out.1 (by simp) Hpk.out.2) ?_
        rintro e w6 ⟨x, rfl, -, hd6⟩
        have Hd6 := Lib.hid ((Hd5.out.alloc _).trans hd6)
        have hI6 := (Ho.out.ext ((Ext.refl w5).alloc (.cells #[.int .i64 (-1), .int .i64 730499, .int .i64 730500] 2))).off hd6.off (fun _ hh => by have e : gd = w.heap.size + 1 := hh; omega)
        have hI7 := own_set0 hI6 rfl hl0 x
        have hw7 := hI7.lt hl0
        have Hd7 := Lib.hid (Hd6.out.setCell (p := ⟨gd, off, none⟩) (by show _ ≤ gd; omega) (by show _ < gd; omega) (.int .i64 x))
        have k0 := hI6.at_ hl0
        obtain ⟨off', e', _, k0⟩ := k0
        injection e' with e'
        injection e' with _ e'
        subst e'
        obtain ⟨k0, kf⟩ := k0 0 (by omega)
        rw [Nat.add_zero] at k0 kf
        have HI := Lib.hid (show Ints (w6.setCell ⟨gd, off, none⟩ (.int .i64 x)) (w.heap.size + 1 + 1) (w6.setCell ⟨gd, off, none⟩ (.int .i64 x)).heap.size (.slice (some ⟨gd, off, none⟩) ds.length cd) (ds.set 0 x) from by
          have := hI7.row (lo := w.heap.size + 1 + 1) (hi := (w6.setCell ⟨gd, off, none⟩ (.int .i64 x)).heap.size) (fun _ => ⟨by omega, hw7⟩)
          unfold Ints
          rw [List.length_set]
          exact this)
        clear hd6 hI6 hI7
        have hbq := HB3.out.drw (Hd7.out) (by omega)
        have q0 := hbq.at0
        have q1 := hbq.at1
        have qf0 := hbq.fz 0 (by simp)
        have qf1 := hbq.fz 1 (by simp)
        have hbm := HBN.out.drw (Hd7.out) (by omega)
        have m0 := hbm.at0
        have m1 := hbm.at1
        have hqz := hbq.1
        have hmz := hbm.1
        clear hbq hbm
        go_wp2_with fail
        refine bodyPost_ret (v := .tuple #[.agg #[.slice As n.sets.length cs, .slice Ak n.links.length ck], .slice (some ⟨gd, off, none⟩) ds.length cd]) (by simp [results, Try.results11, go_sem, *]) rfl ?_
        exact DNetI.fin (lo := w.heap.size + 1 + 1) (show Ext w w3 from (by repeat (first | exact Ext.refl _ | assumption | refine Ext.alloc ?_ _ | refine Ext.drew ?_ | refine Ext.drewN ?_ _ | refine Ext.setCell ?_ (by first | (simp; done) | (simp; omega) | omega) _ | refine Ext.trans ?_ (by assumption)))) Hd7.out HN3.out (by omega) (by omega) (Nat.le_refl _) (by omega) HI.out hf
      · have hl0i : ¬ (0 : Int) < (ds.length : Int) := by omega
        have hbq := HB3.out.drw (Hd5.out) (by omega)
        have q0 := hbq.at0
        have q1 := hbq.at1
        have qf0 := hbq.fz 0 (by simp)
        have qf1 := hbq.fz 1 (by simp)
        have hbm := HBN.out.drw (Hd5.out) (by omega)
        have m0 := hbm.at0
        have m1 := hbm.at1
        have hqz := hbq.1
        have hmz := hbm.1
        clear hbq hbm
        go_wp2_with fail
        refine bodyPost_ret (v := .tuple #[.agg #[.slice As n.sets.length cs, .slice Ak n.links.length ck], .slice Ad ds.length cd]) (by simp [results, Try.results11, go_sem, *]) rfl ?_
        exact DNetI.fin (lo := w.heap.size + 1 + 1) (show Ext w w3 from (by repeat (first | exact Ext.refl _ | assumption | refine Ext.alloc ?_ _ | refine Ext.drew ?_ | refine Ext.drewN ?_ _ | refine Ext.setCell ?_ (by first | (simp; done) | (simp; omega) | omega) _ | refine Ext.trans ?_ (by assumption)))) Hd5.out HN3.out (by omega) (by omega) (Nat.le_refl _) (by omega) ((own_ints Hr5.out (by simp)).mono (by omega) (Nat.le_refl _)) hf
    · have z1' : (r == 1) = false := by simpa using z1
      have hbq := HB3.out.drw (Hd5.out) (by omega)
      have q0 := hbq.at0
      have q1 := hbq.at1
      have qf0 := hbq.fz 0 (by simp)
      have qf1 := hbq.fz 1 (by simp)
      have hbm := HBN.out.drw (Hd5.out) (by omega)
      have m0 := hbm.at0
      have m1 := hbm.at1
      have hqz := hbq.1
      have hmz := hbm.1
      clear hbq hbm
      go_wp2_with fail
      refine bodyPost_ret (v := .tuple #[.agg #[.slice As n.sets.length cs, .slice Ak n.links.length ck], .slice Ad ds.length cd]) (by simp [results, Try.results11, go_sem, *]) rfl ?_
      exact DNetI.fin (lo := w.heap.size + 1 + 1) (show Ext w w3 from (by repeat (first | exact Ext.refl _ | assumption | refine Ext.alloc ?_ _ | refine Ext.drew ?_ | refine Ext.drewN ?_ _ | refine Ext.setCell ?_ (by first | (simp; done) | (simp; omega) | omega) _ | refine Ext.trans ?_ (by assumption)))) Hd5.out HN3.out (by omega) (by omega) (Nat.le_refl _) (by omega) ((own_ints Hr5.out (by simp)).mono (by omega) (Nat.le_refl _)) hf
end Go.Proofs.Ytfajmlkiidnhlaa
