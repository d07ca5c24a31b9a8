/- Contracts: networks that the layer of narrowing draws, narrowed. -/
import Derived.Test.YtfajmlkiidnhlaaQ3Dg
import Derived.Test.YtfajmlkiidnhlaaQ3Ny
namespace Go.Proofs.Ytfajmlkiidnhlaa
set_option linter.unusedVariables false
set_option linter.unusedSimpArgs false
open Go.RowKit
attribute [local go_sem] cell_onto

theorem NetS.at_ {T : TypeId} {w : World} {lo a b : Nat} {s k : Value} {n : Net} (h : NetS T w lo a b s k n) : NetAt w lo w.heap.size s k n := h.own.at_
/-! ### the source and some boxes have turned -/
structure DrwS (b0 g : Nat) (Q : Nat → Prop) (cv : Value) (cn : Nat) (w w' : World) : Prop where
  off : Off (fun k => k = g ∨ Q k) w w'
  src : Src b0 g cv cn w'
section
variable {b0 g cn : Nat} {Q : Nat → Prop} {cv : Value} {w w' w'' : World}
theorem DrwS.refl (h : Src b0 g cv cn w) : DrwS b0 g Q cv cn w w := ⟨Off.refl _ _, h⟩
theorem DrwS.drw (h : DrwS b0 g Q cv cn w w') (k : Drw b0 g cv cn w' w'') : DrwS b0 g Q cv cn w w'' := ⟨h.off.trans (k.off.mono (fun _ hk => .inl hk)), k.src⟩
theorem DrwS.ext (h : DrwS b0 g Q cv cn w w') (hx : Ext w' w'') : DrwS b0 g Q cv cn w w'' := ⟨h.off.trans (Off.of_ext hx), h.src.ext hx⟩
theorem DrwS.alloc (h : DrwS b0 g Q cv cn w w') (o : Obj) : DrwS b0 g Q cv cn w (w'.alloc o) := h.ext ((Ext.refl _).alloc o)
theorem DrwS.drew (h : DrwS b0 g Q cv cn w w') : DrwS b0 g Q cv cn w w'.drew := h.ext (Ext.refl _).drew
theorem DrwS.set (h : DrwS b0 g Q cv cn w w') {q : Nat} (hQ : Q q) (hq : q ≠ g) (hb : b0 ≤ q) (i : Nat) (u : Value) : DrwS b0 g Q cv cn w (w'.setCell ⟨q, i, none⟩ u) :=
  ⟨h.off.setCell (p := ⟨q, i, none⟩) (.inl (.inr hQ)) u, h.src.at_box hq hb i u⟩
theorem DrwS.size (h : DrwS b0 g Q cv cn w w') : w.heap.size ≤ w'.heap.size := h.off.size
theorem DrwS.cell (h : DrwS b0 g Q cv cn w w') {b o : Nat} (hb : b < w.heap.size) (hg : b ≠ g) (hq : ¬ Q b) : w'.cell? ⟨b, o, none⟩ = w.cell? ⟨b, o, none⟩ := h.off.cell (p := ⟨b, o, none⟩) hb (fun hh => hh.elim hg hq)
theorem DrwS.keep2 {p : Nat} {a b : Value} (h : DrwS b0 g Q cv cn w w') (hb : p < w.heap.size) (hg : p ≠ g) (hq : ¬ Q p) (c0 : w.cell? ⟨p, 0, none⟩ = some a) (c1 : w.cell? ⟨p, 1, none⟩ = some b) :
    DrwS b0 g Q cv cn w w' ∧ w'.cell? ⟨p, 0, none⟩ = some a ∧ w'.cell? ⟨p, 1, none⟩ = some b := ⟨h, (h.cell hb hg hq).trans c0, (h.cell hb hg hq).trans c1⟩
theorem DrwS.old {a : World} (h : DrwS b0 g Q cv cn w w') (ha : Ext a w) (hg : a.heap.size ≤ g) (hq : ∀ q, Q q → a.heap.size ≤ q) : Ext a w' := ha.off h.off (fun k hk hh => hh.elim (fun e => by omega) (fun e => by have := hq k e; omega))
theorem DrwS.net {lo : Nat} {s k : Value} {n : Net} (h : DrwS b0 g Q cv cn w w') (hn : NetAt w lo w.heap.size s k n) (hg : g < lo) (hq : ∀ q, Q q → q < lo) : NetAt w' lo w'.heap.size s k n :=
  (hn.off h.off (fun x h1 _ hh => hh.elim (fun e => by omega) (fun e => by have := hq x e; omega)) (Nat.le_refl _)).wide (Nat.le_refl _) h.size
end
/-- two boxes under way, one of the two told -/
theorem box_two {b0 g cn q1 q2 : Nat} {cv : Value} {w w' : World} {cs : List Value} (h : Boxed w q1 cs) (hx : Drw b0 g cv cn w w') (hg : q1 ≠ g) : Boxed w' q1 cs := h.drw hx hg
def Two (a b k : Nat) : Prop := k = a ∨ k = b
set_option maxRecDepth 100000 in
set_option maxHeartbeats 4000000 in
theorem spec_DrawIsNarrow (cn : Nat) (cv : Value) (w : World) (h : Bytes w 0 w.heap.size cv cn) : Calls Try.prog 66 #[cv] w (DNetW w) := by
  obtain ⟨A, c, rfl, _⟩ := h.len
  have H := Lib.hid h
  clear h
  have Hb := Lib.hid (Boxed.new w [.slice none 0 0, .slice none 0 0] 27)
  go_enter Try.func66, Try.ntmps66
  go_wp2_with fail
  refine Calls.mono (spec_l01From cn _ _ (H.out.up (by repeat (first | exact Ext.refl _ | assumption | refine Ext.alloc ?_ _ | refine Ext.drew ?_ | refine Ext.drewN ?_ _ | refine Ext.setCell ?_ (by first | (simp; done) | (simp; omega) | omega) _ | refine Ext.trans ?_ (by assumption))))) ?_
  rintro e w1 ⟨rfl, hx1, hs1⟩
  rw [World.size_alloc] at hs1
  have Hs1 := Lib.hid (hs1.low (b1 := w.heap.size) (by omega) (H.out.ext (by repeat (first | exact Ext.refl _ | assumption | refine Ext.alloc ?_ _ | refine Ext.drew ?_ | refine Ext.drewN ?_ _ | refine Ext.setCell ?_ (by first | (simp; done) | (simp; omega) | omega) _ | refine Ext.trans ?_ (by assumption))) (Nat.le_refl _)))
  have hz1 := hx1.size
  rw [World.size_alloc] at hz1
  have HB1 := Lib.hid (Hb.out.ext hx1)
  have hxw1 : Ext w w1 := (by repeat (first | exact Ext.refl _ | assumption | refine Ext.alloc ?_ _ | refine Ext.drew ?_ | refine Ext.drewN ?_ _ | refine Ext.setCell ?_ (by first | (simp; done) | (simp; omega) | omega) _ | refine Ext.trans ?_ (by assumption)))
  clear hs1
  go_wp2_with fail
  refine Calls.mono (spec_l18Draw _ _ cn _ _ Hs1.out) ?_
  rintro e w2 hD
  obtain ⟨s, k, n, rfl, hd2, hf, hN⟩ := hD.now Hs1.out.lt
  clear hD hf
  have hxw2 := hd2.old hxw1 (by omega)
  have HN := Lib.hid hN
  have hz2 := hd2.size
  have hs2 := hd2.src
  have hg1 := Hs1.out.lt
  have HB2 := Lib.hid (HB1.out.drw hd2 (by omega))
  clear hd2 hN
  obtain ⟨As, cs, rfl, _⟩ := HN.out.1.len
  obtain ⟨Ak, ck, rfl, _⟩ := HN.out.2.len
  obtain ⟨w3, hw3⟩ : ∃ x : World, x = w2.alloc (.cells #[.slice As n.sets.length cs, .slice Ak n.links.length ck] 27) := ⟨_, rfl⟩
  have hxw3 : Ext w2 w3 := by rw [hw3]; exact (by repeat (first | exact Ext.refl _ | assumption | refine Ext.alloc ?_ _ | refine Ext.drew ?_ | refine Ext.drewN ?_ _ | refine Ext.setCell ?_ (by first | (simp; done) | (simp; omega) | omega) _ | refine Ext.trans ?_ (by assumption)))
  have hzw3 : w3.heap.size = w2.heap.size + 1 := by rw [hw3]; simp
  have hbw3 : Boxed w3 w2.heap.size [.slice As n.sets.length cs, .slice Ak n.links.length ck] := by rw [hw3]; exact Boxed.new w2 [.slice As n.sets.length cs, .slice Ak n.links.length ck] 27
  have Hs3 := Lib.hid (hs2.ext hxw3)
  have HN3 := Lib.hid ((HN.out.ext hxw3 (Nat.le_refl _)).wide (Nat.le_refl _) hxw3.size)
  have HB3 := Lib.hid (HB2.out.ext hxw3)
  have Hb3 := Lib.hid hbw3
  have hxw3' : Ext w w3 := hxw2.trans hxw3
  have c0 := hbw3.at0
  have c1 := hbw3.at1
  clear hbw3 hs2
  go_wp2_with fail
  rw [← hw3]
  clear hw3
  go_wp2_with fail
  refine Calls.mono (spec_IsNetwork _ _ n _ (NetAt.read HN3.out)) ?_
  rintro e w4 ⟨rfl, hx4⟩
  have hz4 := hx4.size
  have hxw4 : Ext w w4 := hxw3'.trans hx4
  have HN4 := Lib.hid ((HN3.out.ext hx4 (Nat.le_refl _)).wide (Nat.le_refl _) hx4.size)
  have HB4 := Lib.hid (HB3.out.ext hx4)
  have Hb4 := Lib.hid (Hb3.out.ext hx4)
  have Hs4 := Lib.hid (Hs3.out.ext hx4)
  clear c0 c1 hx4
  by_cases hok : NetOk n
  case neg =>
    rw [B_false hok]
    have bb := HB4.out
    have bb0 := bb.at0
    have bb1 := bb.at1
    have bbf0 := bb.fz 0 (by simp)
    have bbf1 := bb.fz 1 (by simp)
    have bbg := bb.1
    have Hbb := Lib.hid bb
    clear bb
    have bn := Hb4.out
    have bn0 := bn.at0
    have bn1 := bn.at1
    have bnf0 := bn.fz 0 (by simp)
    have bnf1 := bn.fz 1 (by simp)
    have bng := bn.1
    have Hbn := Lib.hid bn
    clear bn
    go_wp2_with fail
    refine bodyPost_ret (v := .agg #[.slice As n.sets.length cs, .slice Ak n.links.length ck]) (by simp [results, Try.results66, go_sem, *]) rfl ?_
    exact DNetW.fin hxw4 HN4.out (by omega) (Nat.le_refl _)
  rw [B_true hok]
  go_wp2_with fail
  refine Calls.mono (spec_l01Next _ _ cn _ 2 _ Hs4.out) ?_
  rintro e w5 ⟨r, rfl, -, hd5⟩
  have hz5 := hd5.size
  have hxw5 := hd5.old hxw4 (by omega)
  have HN5 := Lib.hid ((HN4.out.drw hd5 (by omega) (Nat.le_refl _)).wide (Nat.le_refl _) hz5)
  have HB5 := Lib.hid (HB4.out.drw hd5 (by omega))
  have Hb5 := Lib.hid (Hb4.out.drw hd5 (by omega))
  clear hd5
  have bb := HB5.out
  have bb0 := bb.at0
  have bb1 := bb.at1
  have bbf0 := bb.fz 0 (by simp)
  have bbf1 := bb.fz 1 (by simp)
  have bbg := bb.1
  have Hbb := Lib.hid bb
  clear bb
  have bn := Hb5.out
  have bn0 := bn.at0
  have bn1 := bn.at1
  have bnf0 := bn.fz 0 (by simp)
  have bnf1 := bn.fz 1 (by simp)
  have bng := bn.1
  have Hbn := Lib.hid bn
  clear bn
  by_cases z0 : r = 0
  case neg =>
    have z0' : (r == 0) = false := by simpa using z0
    go_wp2_with fail
    refine bodyPost_ret (v := .agg #[.slice As n.sets.length cs, .slice Ak n.links.length ck]) (by simp [results, Try.results66, go_sem, *]) rfl ?_
    exact DNetW.fin hxw5 HN5.out (by omega) (Nat.le_refl _)
  subst z0
  go_wp2_with fail
  refine Calls.mono (spec_l19All _ _ n _ (NetAt.read HN5.out) hok) ?_
  rintro e w6 ⟨Am, Am', cm, cm', a, b, x, o, m, rfl, hx6, hS6, -⟩
  have hz6 := hx6.size
  have hxw6 := hxw5.trans hx6
  have HM6 := Lib.hid hS6.at_
  have HN6 := Lib.hid ((HN5.out.ext hx6 (Nat.le_refl _)).wide (Nat.le_refl _) hx6.size)
  have HB6 := Lib.hid (HB5.out.ext hx6)
  have Hb6 := Lib.hid (Hb5.out.ext hx6)
  clear bb0 bb1 bbf0 bbf1 bbg bn0 bn1 bnf0 bnf1 bng hx6 hS6
  obtain ⟨w7, hw7⟩ : ∃ x : World, x = w6.alloc (.cells #[.slice Am m.sets.length cm, .slice Am' m.links.length cm'] 27) := ⟨_, rfl⟩
  have hxw7 : Ext w6 w7 := by rw [hw7]; exact (by repeat (first | exact Ext.refl _ | assumption | refine Ext.alloc ?_ _ | refine Ext.drew ?_ | refine Ext.drewN ?_ _ | refine Ext.setCell ?_ (by first | (simp; done) | (simp; omega) | omega) _ | refine Ext.trans ?_ (by assumption)))
  have hzw7 : w7.heap.size = w6.heap.size + 1 := by rw [hw7]; simp
  have hbw7 : Boxed w7 w6.heap.size [.slice Am m.sets.length cm, .slice Am' m.links.length cm'] := by rw [hw7]; exact Boxed.new w6 [.slice Am m.sets.length cm, .slice Am' m.links.length cm'] 27
  have hxw7' := hxw6.trans hxw7
  have HM7 := Lib.hid ((HM6.out.ext hxw7 (Nat.le_refl _)).wide (Nat.le_refl _) hxw7.size)
  have HN7 := Lib.hid ((HN6.out.ext hxw7 (Nat.le_refl _)).wide (Nat.le_refl _) hxw7.size)
  have bm0 := hbw7.at0
  have bm1 := hbw7.at1
  have bb := HB6.out.ext hxw7
  have bb0 := bb.at0
  have bb1 := bb.at1
  have bbf0 := bb.fz 0 (by simp)
  have bbf1 := bb.fz 1 (by simp)
  have bbg := bb.1
  have Hbb := Lib.hid bb
  clear bb
  have bn := Hb6.out.ext hxw7
  have bn0 := bn.at0
  have bn1 := bn.at1
  have bnf0 := bn.fz 0 (by simp)
  have bnf1 := bn.fz 1 (by simp)
  have bng := bn.1
  have Hbn := Lib.hid bn
  clear bn
  clear hbw7
  cases o
  case false =>
    subst hw7
    go_wp2_with fail
    refine bodyPost_ret (v := .agg #[.slice As n.sets.length cs, .slice Ak n.links.length ck]) (by simp [results, Try.results66, go_sem, *]) rfl ?_
    exact DNetW.fin hxw7' HN7.out (by omega) (Nat.le_refl _)
  case true =>
    subst hw7
    go_wp2_with fail
    refine bodyPost_ret (v := .agg #[.slice Am m.sets.length cm, .slice Am' m.links.length cm']) (by simp [results, Try.results66, go_sem, *]) rfl ?_
    exact DNetW.fin hxw7' HM7.out (by omega) (Nat.le_refl _)
set_option maxRecDepth 100000 in
set_option maxHeartbeats 8000000 in
theorem spec_DrawLostDays (cn : Nat) (cv : Value) (w : World) (h : Bytes w 0 w.heap.size cv cn) : Calls Try.prog 69 #[cv] w (DNetN w) := by
  obtain ⟨A, c, rfl, _⟩ := h.len
  have H := Lib.hid h
  clear h
  obtain ⟨wp, hwp⟩ : ∃ x : World, x = (w.alloc (.cells #[.slice none 0 0, .slice none 0 0] 27)).alloc (.cells #[.slice none 0 0, .slice none 0 0] 27) := ⟨_, rfl⟩
  have hxp : Ext w wp := by rw [hwp]; exact (by repeat (first | exact Ext.refl _ | assumption | refine Ext.alloc ?_ _ | refine Ext.drew ?_ | refine Ext.drewN ?_ _ | refine Ext.setCell ?_ (by first | (simp; done) | (simp; omega) | omega) _ | refine Ext.trans ?_ (by assumption)))
  have hzp : wp.heap.size = w.heap.size + 1 + 1 := by rw [hwp]; simp
  have Hp := Lib.hid (show Boxed wp w.heap.size [.slice none 0 0, .slice none 0 0] from by rw [hwp]; exact (Boxed.new w [.slice none 0 0, .slice none 0 0] 27).ext (by repeat (first | exact Ext.refl _ | assumption | refine Ext.alloc ?_ _ | refine Ext.drew ?_ | refine Ext.drewN ?_ _ | refine Ext.setCell ?_ (by first | (simp; done) | (simp; omega) | omega) _ | refine Ext.trans ?_ (by assumption))))
  have Hq := Lib.hid (show Boxed wp (w.heap.size + 1) [.slice none 0 0, .slice none 0 0] from by rw [hwp]; have hh := Boxed.new (w.alloc (.cells #[.slice none 0 0, .slice none 0 0] 27)) [.slice none 0 0, .slice none 0 0] 27; rwa [World.size_alloc] at hh)
  go_enter Try.func69, Try.ntmps69
  go_wp2_with fail
  rw [← hwp]
  clear hwp
  refine Calls.mono (spec_l01From cn _ _ (H.out.up hxp)) ?_
  rintro e w1 ⟨rfl, hx1, hs1⟩
  rw [hzp] at hs1
  have Hs1 := Lib.hid (hs1.low (b1 := w.heap.size) (by omega) (H.out.ext (hxp.trans hx1) (Nat.le_refl _)))
  have hz1 := hx1.size
  rw [hzp] at hz1
  have hxw1 : Ext w w1 := hxp.trans hx1
  have HP1 := Lib.hid (Hp.out.ext hx1)
  have HQ1 := Lib.hid (Hq.out.ext hx1)
  clear hs1
  go_wp2_with fail
  refine Calls.mono (spec_l18Draw _ _ cn _ _ Hs1.out) ?_
  rintro e w2 hD
  obtain ⟨s, k, n, rfl, hd2, hf, hN⟩ := hD.now Hs1.out.lt
  clear hD hf
  have hxw2 := hd2.old hxw1 (by omega)
  have HN := Lib.hid hN
  have hz2 := hd2.size
  have hs2 := hd2.src
  have hg1 := Hs1.out.lt
  have HP2 := Lib.hid (HP1.out.drw hd2 (by omega))
  have HQ2 := Lib.hid (HQ1.out.drw hd2 (by omega))
  clear hd2 hN
  obtain ⟨As, cs, rfl, _⟩ := HN.out.1.len
  obtain ⟨Ak, ck, rfl, _⟩ := HN.out.2.len
  obtain ⟨w3, hw3⟩ : ∃ x : World, x = w2.alloc (.cells #[.slice As n.sets.length cs, .slice Ak n.links.length ck] 27) := ⟨_, rfl⟩
  have hxw3 : Ext w2 w3 := by rw [hw3]; exact (by repeat (first | exact Ext.refl _ | assumption | refine Ext.alloc ?_ _ | refine Ext.drew ?_ | refine Ext.drewN ?_ _ | refine Ext.setCell ?_ (by first | (simp; done) | (simp; omega) | omega) _ | refine Ext.trans ?_ (by assumption)))
  have hzw3 : w3.heap.size = w2.heap.size + 1 := by rw [hw3]; simp
  have hbw3 : Boxed w3 w2.heap.size [.slice As n.sets.length cs, .slice Ak n.links.length ck] := by rw [hw3]; exact Boxed.new w2 [.slice As n.sets.length cs, .slice Ak n.links.length ck] 27
  have Hs3 := Lib.hid (hs2.ext hxw3)
  have HN3 := Lib.hid ((HN.out.ext hxw3 (Nat.le_refl _)).wide (Nat.le_refl _) hxw3.size)
  have HP3 := Lib.hid (HP2.out.ext hxw3)
  have HQ3 := Lib.hid (HQ2.out.ext hxw3)
  have Hb3 := Lib.hid hbw3
  have hxw3' : Ext w w3 := hxw2.trans hxw3
  have c0 := hbw3.at0
  have c1 := hbw3.at1
  clear hbw3 hs2
  go_wp2_with fail
  rw [← hw3]
  clear hw3
  go_wp2_with fail
  refine Calls.mono (spec_IsNetwork _ _ n _ (NetAt.read HN3.out)) ?_
  rintro e w4 ⟨rfl, hx4⟩
  have hz4 := hx4.size
  have hxw4 : Ext w w4 := hxw3'.trans hx4
  have HN4 := Lib.hid ((HN3.out.ext hx4 (Nat.le_refl _)).wide (Nat.le_refl _) hx4.size)
  have HP4 := Lib.hid (HP3.out.ext hx4)
  have HQ4 := Lib.hid (HQ3.out.ext hx4)
  have Hb4 := Lib.hid (Hb3.out.ext hx4)
  have Hs4 := Lib.hid (Hs3.out.ext hx4)
  have h02 : 0 < [Value.slice none 0 0, Value.slice none 0 0].length := by simp
  have h12 : 1 < [Value.slice none 0 0, Value.slice none 0 0].length := by simp
  clear c0 c1 hx4
  have fin : ∀ (WB : World) (hxB : Ext w WB) (hzB : w3.heap.size ≤ WB.heap.size) (HNB : NetAt WB (w.heap.size + 1 + 1 + 1) WB.heap.size (.slice As n.sets.length cs) (.slice Ak n.links.length ck) n) (w9 : World) (s' k' : Value) (m : Net), DrwS w.heap.size (w.heap.size + 1 + 1) (Two w.heap.size (w.heap.size + 1)) (.slice A cn c) cn WB w9 →
      NetAt w9 (w.heap.size + 1 + 1 + 1) w9.heap.size s' k' m → DNetN w (.returned (.tuple #[.agg #[.slice As n.sets.length cs, .slice Ak n.links.length ck], .agg #[s', k']])) w9 := by
    intro WB hxB hzB HNB w9 s' k' m hR hM
    refine ⟨_, _, _, _, n, m, rfl, hR.old hxB (by omega) (fun q hq => by unfold Two at hq; omega), (hR.net HNB (by omega) (fun q hq => by unfold Two at hq; omega)).wide (by omega) (Nat.le_refl _), hM.wide (by omega) (Nat.le_refl _)⟩
  have Fin := Lib.hid fin
  clear fin
  have other : ∀ (WB : World) (hxB : Ext w WB) (hzB : w3.heap.size ≤ WB.heap.size), True := fun _ _ _ => trivial
  by_cases hok : NetOk n
  case neg =>
    rw [B_false hok]
    have bn0 := Hb4.out.at0
    have bn1 := Hb4.out.at1
    go_wp2_with fail
    have c0 := bn0
    have c1 := bn1
    have HPD := Lib.hid HP4.out.drew
    have HQD := Lib.hid HQ4.out.drew
    have HSB := Hs4
    have HXB := hxw4
    have HNB := HN4
    go_region_held3 (fun w' => DrwS w.heap.size (w.heap.size + 1 + 1) (Two w.heap.size (w.heap.size + 1)) (.slice A cn c) cn w4 w' ∧ w'.cell? ⟨w2.heap.size, 0, none⟩ = some (.slice As n.sets.length cs) ∧ w'.cell? ⟨w2.heap.size, 1, none⟩ = some (.slice Ak n.links.length ck))
      (exact DrwS.keep2 (by repeat (first | exact DrwS.refl HSB.out | exact (by assumption : DrwS _ _ _ _ _ w4 _ ∧ _).1 | assumption | refine DrwS.drew ?_ | refine DrwS.alloc ?_ _ | refine DrwS.set ?_ (.inl rfl) (by omega) (by omega) _ _ | refine DrwS.set ?_ (.inr rfl) (by omega) (by omega) _ _)) (by omega) (by omega) (by unfold Two; omega) c0 c1)
      (first
        | (go_at_call 85; refine Calls.mono (spec_l18Draw _ _ cn _ _ (by assumption : DrwS _ _ _ _ _ w4 _ ∧ _).1.src) ?_; intro e w6 hD; obtain ⟨s', k', m, rfl, hd6, -, hN6⟩ := hD.now (by assumption : DrwS _ _ _ _ _ w4 _ ∧ _).1.src.lt; obtain ⟨As', cs', rfl, _⟩ := hN6.1.len; obtain ⟨Ak', ck', rfl, _⟩ := hN6.2.len; clear hD; have hD6 := (by assumption : DrwS _ _ _ _ _ w4 _ ∧ _).1.drw hd6; have HM6 := Lib.hid hN6; have hz6 := hd6.size; have hp5 := HPD.out.drw hd6 (by omega); have hq5 := HQD.out.drw hd6 (by omega); have p0 := hp5.at0; have p1 := hp5.at1; have pf0 := hp5.fz 0 h02; have pf1 := hp5.fz 1 h12; have pz := hp5.1; have q0 := hq5.at0; have q1 := hq5.at1; have qf0 := hq5.fz 0 h02; have qf1 := hq5.fz 1 h12; have qz := hq5.1; clear hp5 hq5; clear hd6 hN6))
    have hR := (by assumption : DrwS _ _ _ _ _ w4 _ ∧ _).1
    go_wp2_with fail
    refine bodyPost_ret (v := .tuple #[.agg #[.slice As n.sets.length cs, .slice Ak n.links.length ck], .agg #[.slice As' m.sets.length cs', .slice Ak' m.links.length ck']]) (by simp [results, Try.results69, go_sem, *]) rfl ?_
    exact Fin.out w4 HXB (by omega) HNB.out _ _ _ m hR (net_store (net_store HM6.out (by omega)) (by omega))
  have Hok := Lib.hid hok
  rw [B_true hok]
  clear hok
  go_wp2_with fail
  refine Calls.mono (spec_l01Next _ _ cn _ 3 _ Hs4.out) ?_
  rintro e w5 ⟨r, rfl, ⟨t0, _, _⟩, hd5⟩
  have hz5 := hd5.size
  have HXB := hd5.old hxw4 (by omega)
  have HNB := Lib.hid ((HN4.out.drw hd5 (by omega) (Nat.le_refl _)).wide (Nat.le_refl _) hz5)
  have HPD := Lib.hid (HP4.out.drw hd5 (by omega)).drew
  have HQD := Lib.hid (HQ4.out.drw hd5 (by omega)).drew
  have Hb5 := Lib.hid (Hb4.out.drw hd5 (by omega))
  have HSB := Lib.hid hd5.src
  clear hd5
  have c0 := Hb5.out.at0
  have c1 := Hb5.out.at1
  have HTwo := Lib.hid (show ∀ q, Two w.heap.size (w.heap.size + 1) q → q < w.heap.size + 1 + 1 + 1 from fun q hq => by unfold Two at hq; omega)
  by_cases hr : 0 < r
  · go_wp2_with fail
    go_region_held3 (fun w' => DrwS w.heap.size (w.heap.size + 1 + 1) (Two w.heap.size (w.heap.size + 1)) (.slice A cn c) cn w5 w' ∧ w'.cell? ⟨w2.heap.size, 0, none⟩ = some (.slice As n.sets.length cs) ∧ w'.cell? ⟨w2.heap.size, 1, none⟩ = some (.slice Ak n.links.length ck))
      (exact DrwS.keep2 (by repeat (first | exact DrwS.refl HSB.out | exact (by assumption : DrwS _ _ _ _ _ w5 _ ∧ _).1 | assumption | refine DrwS.drew ?_ | refine DrwS.alloc ?_ _ | refine DrwS.set ?_ (.inl rfl) (by omega) (by omega) _ _ | refine DrwS.set ?_ (.inr rfl) (by omega) (by omega) _ _)) (by omega) (by omega) (by unfold Two; omega) c0 c1)
      (first
        | (go_at_call 154; refine Calls.mono (spec_l19Round _ _ n _ (NetAt.read ((by assumption : DrwS _ _ _ _ _ w5 _ ∧ _).1.net HNB.out (by omega) HTwo.out)) Hok.out.d) ?_; intro e w6 hD; obtain ⟨s', k', ga, gb, rfl, hx6, hS6⟩ := NetS.of hD; have hN6 := (hS6.at_).wide (show w.heap.size + 1 + 1 + 1 ≤ _ from Nat.le_trans (by omega) (by assumption : DrwS _ _ _ _ _ w5 _ ∧ _).1.size) (Nat.le_refl _); obtain ⟨As', cs', rfl, _⟩ := hN6.1.len; obtain ⟨Ak', ck', rfl, _⟩ := hN6.2.len; clear hD; have hD6 := (by assumption : DrwS _ _ _ _ _ w5 _ ∧ _).1.ext hx6; have HM6 := Lib.hid hN6; have hz6 := hx6.size; have hp5 := HPD.out.ext hx6; have hq5 := HQD.out.ext hx6; have p0 := hp5.at0; have p1 := hp5.at1; have pf0 := hp5.fz 0 h02; have pf1 := hp5.fz 1 h12; have pz := hp5.1; have q0 := hq5.at0; have q1 := hq5.at1; have qf0 := hq5.fz 0 h02; have qf1 := hq5.fz 1 h12; have qz := hq5.1; clear hp5 hq5; clear hx6 hN6 hS6))
    have hR := (by assumption : DrwS _ _ _ _ _ w5 _ ∧ _).1
    go_wp2_with fail
    refine bodyPost_ret (v := .tuple #[.agg #[.slice As n.sets.length cs, .slice Ak n.links.length ck], .agg #[.slice As' (narR n).sets.length cs', .slice Ak' (narR n).links.length ck']]) (by simp [results, Try.results69, go_sem, *]) rfl ?_
    exact Fin.out w5 HXB (by omega) HNB.out _ _ _ (narR n) hR (net_store (net_store HM6.out (by omega)) (by omega))
  · go_wp2_with fail
    go_region_held3 (fun w' => DrwS w.heap.size (w.heap.size + 1 + 1) (Two w.heap.size (w.heap.size + 1)) (.slice A cn c) cn w5 w' ∧ w'.cell? ⟨w2.heap.size, 0, none⟩ = some (.slice As n.sets.length cs) ∧ w'.cell? ⟨w2.heap.size, 1, none⟩ = some (.slice Ak n.links.length ck))
      (exact DrwS.keep2 (by repeat (first | exact DrwS.refl HSB.out | exact (by assumption : DrwS _ _ _ _ _ w5 _ ∧ _).1 | assumption | refine DrwS.drew ?_ | refine DrwS.alloc ?_ _ | refine DrwS.set ?_ (.inl rfl) (by omega) (by omega) _ _ | refine DrwS.set ?_ (.inr rfl) (by omega) (by omega) _ _)) (by omega) (by omega) (by unfold Two; omega) c0 c1)
      (first
        | (go_at_call 85; refine Calls.mono (spec_l18Draw _ _ cn _ _ (by assumption : DrwS _ _ _ _ _ w5 _ ∧ _).1.src) ?_; intro e w6 hD; obtain ⟨s', k', m, rfl, hd6, -, hN6⟩ := hD.now (by assumption : DrwS _ _ _ _ _ w5 _ ∧ _).1.src.lt; obtain ⟨As', cs', rfl, _⟩ := hN6.1.len; obtain ⟨Ak', ck', rfl, _⟩ := hN6.2.len; clear hD; have hD6 := (by assumption : DrwS _ _ _ _ _ w5 _ ∧ _).1.drw hd6; have HM6 := Lib.hid hN6; have hz6 := hd6.size; have hp5 := HPD.out.drw hd6 (by omega); have hq5 := HQD.out.drw hd6 (by omega); have p0 := hp5.at0; have p1 := hp5.at1; have pf0 := hp5.fz 0 h02; have pf1 := hp5.fz 1 h12; have pz := hp5.1; have q0 := hq5.at0; have q1 := hq5.at1; have qf0 := hq5.fz 0 h02; have qf1 := hq5.fz 1 h12; have qz := hq5.1; clear hp5 hq5; clear hd6 hN6))
    have hR := (by assumption : DrwS _ _ _ _ _ w5 _ ∧ _).1
    go_wp2_with fail
    refine bodyPost_ret (v := .tuple #[.agg #[.slice As n.sets.length cs, .slice Ak n.links.length ck], .agg #[.slice As' m.sets.length cs', .slice Ak' m.links.length ck']]) (by simp [results, Try.results69, go_sem, *]) rfl ?_
    exact Fin.out w5 HXB (by omega) HNB.out _ _ _ m hR (net_store (net_store HM6.out (by omega)) (by omega))
end Go.Proofs.Ytfajmlkiidnhlaa
