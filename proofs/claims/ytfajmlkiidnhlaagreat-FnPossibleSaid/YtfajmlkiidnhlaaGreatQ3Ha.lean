/- Texts merged (a claim holds at most sixty files): Ha, Fp, Fq. -/
import Derived.Test.YtfajmlkiidnhlaaGreatQ3So
import Derived.Test.YtfajmlkiidnhlaaGreatQ3Hs
import Derived.Test.YtfajmlkiidnhlaaGreatQ3Fs
import Derived.Test.YtfajmlkiidnhlaaGreatQ3K
import Derived.Deep.RegionLaw
/- Contracts: HasSolution. -/
namespace Go.Proofs.YtfajmlkiidnhlaaGreat
set_option linter.unusedVariables false
set_option linter.unusedSimpArgs false
open Go.RowKit
attribute [local go_sem] cell_onto

noncomputable def hasV (n : Net) : Bool := bif B (codeE n true = 0) then B (Sol n) else false
theorem hasV_no {n : Net} (h : codeE n true ≠ 0) : hasV n = false := by unfold hasV; rw [B_false h]; rfl
theorem hasV_ok {n : Net} (h : codeE n true = 0) : hasV n = B (Sol n) := by unfold hasV; rw [B_true h]; rfl
theorem varsOk_nil (n : Net) : VarsOk n [] := fun i hi => absurd hi (by simp)
theorem few_of {n : Net} (h : choN 4096 n.sets ≤ 4096) : prodN n.sets ≤ 4096 := by
  have h1 : choN ((4096 : Nat) : Int) n.sets = (prodN n.sets : Int) := choN_exact (m := 4096) (l := n.sets) h
  have h2 : choN ((4096 : Nat) : Int) n.sets ≤ 4096 := h
  omega
theorem nilInts (w : World) : Ints w 0 w.heap.size (.slice none 0 0) [] := ⟨by simp [maxLen], none, 0, rfl, Nat.le_refl _, fun h => absurd h (by simp)⟩

set_option maxHeartbeats 1000000 in
theorem impl_HasSolution (s k : Value) (n : Net) (w : World) (h : NetIn w s k n) : Calls Tryz.prog 7 #[.agg #[s, k]] w (RetX (.tuple #[.bool (hasV n), .int .i64 (codeE n true)]) w) := by
  have H := Lib.hid h
  have Hv := Lib.hid (B_true (varsOk_nil n))
  clear h
  go_enter Tryz.func7, Tryz.ntmps7
  go_wp2_with fail
  refine Calls.mono (impl_checkChoices s k _ n [] _ (H.out.up (by repeat (first | exact Ext.refl _ | assumption | refine Ext.alloc ?_ _ | refine Ext.drew ?_ | refine Ext.drewN ?_ _ | refine Ext.setCell ?_ (by first | (simp; done) | (simp; omega) | omega) _ | refine Ext.trans ?_ (by assumption)))) (nilInts _)) ?_
  rintro e w1 ⟨rfl, hx1⟩
  rw [Hv.out]
  have hb := (Boxed.new w [s, k] 27).ext hx1; have hb0 := hb.at0; have hb1 := hb.at1; have hbg := hb.1; have Hhb := Lib.hid hb; clear hb
  have hx : Ext w w1 := (by repeat (first | exact Ext.refl _ | assumption | refine Ext.alloc ?_ _ | refine Ext.drew ?_ | refine Ext.drewN ?_ _ | refine Ext.setCell ?_ (by first | (simp; done) | (simp; omega) | omega) _ | refine Ext.trans ?_ (by assumption)))
  clear hx1
  by_cases hc : codeE n true = 0
  · have Hc := Lib.hid hc
    have Hz := Lib.hid (codeE_zero hc)
    have hd : (codeE n true != 0) = false := by rw [hc]; rfl
    clear hc
    go_wp2_with fail
    refine Calls.mono (impl_isSolvable s k n _ (H.out.up (by repeat (first | exact Ext.refl _ | assumption | refine Ext.alloc ?_ _ | refine Ext.drew ?_ | refine Ext.drewN ?_ _ | refine Ext.setCell ?_ (by first | (simp; done) | (simp; omega) | omega) _ | refine Ext.trans ?_ (by assumption)))) (NetFit.of Hz.out.1)) ?_
    rintro e w2 ⟨rfl, hx2⟩
    go_wp2_with fail
    go_ret2
    exact ⟨by rw [hasV_ok Hc.out, Hc.out]; rfl, (by repeat (first | exact Ext.refl _ | assumption | refine Ext.alloc ?_ _ | refine Ext.drew ?_ | refine Ext.drewN ?_ _ | refine Ext.setCell ?_ (by first | (simp; done) | (simp; omega) | omega) _ | refine Ext.trans ?_ (by assumption)))⟩
  · have Hc := Lib.hid hc
    have hd : (codeE n true != 0) = true := by simp [hc]
    clear hc
    go_wp2_with fail
    go_ret2
    exact ⟨by rw [hasV_no Hc.out]; rfl, (by repeat (first | exact Ext.refl _ | assumption | refine Ext.alloc ?_ _ | refine Ext.drew ?_ | refine Ext.drewN ?_ _ | refine Ext.setCell ?_ (by first | (simp; done) | (simp; omega) | omega) _ | refine Ext.trans ?_ (by assumption)))⟩
set_option maxHeartbeats 1000000 in
theorem spec_HasSolution (s k : Value) (n : Net) (w : World) (h : NetIn w s k n) : Calls Tryz.prog 8 #[.agg #[s, k]] w (RetX (.tuple #[.bool (hasV n), .int .i64 (codeE n true)]) w) := by
  have H := Lib.hid h
  clear h
  go_enter Tryz.func8, Tryz.ntmps8
  go_wp2_with fail
  refine Calls.mono (spec_l20Code s k n true _ (H.out.up (by repeat (first | exact Ext.refl _ | assumption | refine Ext.alloc ?_ _ | refine Ext.drew ?_ | refine Ext.drewN ?_ _ | refine Ext.setCell ?_ (by first | (simp; done) | (simp; omega) | omega) _ | refine Ext.trans ?_ (by assumption))))) ?_
  rintro e w1 ⟨rfl, hx1⟩
  have hb := (Boxed.new w [s, k] 27).ext hx1; have hb0 := hb.at0; have hb1 := hb.at1; have hbg := hb.1; have Hhb := Lib.hid hb; clear hb
  have hx : Ext w w1 := (by repeat (first | exact Ext.refl _ | assumption | refine Ext.alloc ?_ _ | refine Ext.drew ?_ | refine Ext.drewN ?_ _ | refine Ext.setCell ?_ (by first | (simp; done) | (simp; omega) | omega) _ | refine Ext.trans ?_ (by assumption)))
  clear hx1
  by_cases hc : codeE n true = 0
  · have Hc := Lib.hid hc
    have Hz := Lib.hid (codeE_zero hc)
    have hd : (codeE n true != 0) = false := by rw [hc]; rfl
    clear hc
    go_wp2_with fail
    refine Calls.mono (spec_l20Has s k n _ (H.out.up (by repeat (first | exact Ext.refl _ | assumption | refine Ext.alloc ?_ _ | refine Ext.drew ?_ | refine Ext.drewN ?_ _ | refine Ext.setCell ?_ (by first | (simp; done) | (simp; omega) | omega) _ | refine Ext.trans ?_ (by assumption)))) (NetFit.of Hz.out.1) (few_of Hz.out.2.2)) ?_
    rintro e w2 ⟨rfl, hx2⟩
    go_wp2_with fail
    go_ret2
    exact ⟨by rw [hasV_ok Hc.out, Hc.out]; rfl, (by repeat (first | exact Ext.refl _ | assumption | refine Ext.alloc ?_ _ | refine Ext.drew ?_ | refine Ext.drewN ?_ _ | refine Ext.setCell ?_ (by first | (simp; done) | (simp; omega) | omega) _ | refine Ext.trans ?_ (by assumption)))⟩
  · have Hc := Lib.hid hc
    have hd : (codeE n true != 0) = true := by simp [hc]
    clear hc
    go_wp2_with fail
    go_ret2
    exact ⟨by rw [hasV_no Hc.out]; rfl, (by repeat (first | exact Ext.refl _ | assumption | refine Ext.alloc ?_ _ | refine Ext.drew ?_ | refine Ext.drewN ?_ _ | refine Ext.setCell ?_ (by first | (simp; done) | (simp; omega) | omega) _ | refine Ext.trans ?_ (by assumption)))⟩
end Go.Proofs.YtfajmlkiidnhlaaGreat

/- Contracts: FirstSolution. -/
namespace Go.Proofs.YtfajmlkiidnhlaaGreat
set_option linter.unusedVariables false
set_option linter.unusedSimpArgs false
open Go.RowKit
attribute [local go_sem] cell_onto

/-- the code and the first solution -/
noncomputable def firE (n : Net) : Int := bif B (codeE n true = 0) then (bif B (Sol n) then 0 else 4) else codeE n true
noncomputable def firL (n : Net) : List Int := bif B (codeE n true = 0) then (bestL (lows n.links (allCh n.sets []))).getD [] else []
theorem firE_no {n : Net} (h : codeE n true ≠ 0) : firE n = codeE n true := by unfold firE; rw [B_false h]; rfl
theorem firE_none {n : Net} (h : codeE n true = 0) (h2 : ¬ Sol n) : firE n = 4 := by unfold firE; rw [B_true h, B_false h2]; rfl
theorem firE_ok {n : Net} (h : codeE n true = 0) (h2 : Sol n) : firE n = 0 := by unfold firE; rw [B_true h, B_true h2]; rfl
theorem firL_no {n : Net} (h : codeE n true ≠ 0) : firL n = [] := by unfold firL; rw [B_false h]; rfl
theorem firL_ok {n : Net} {m : List Int} (h : codeE n true = 0) (h2 : bestL (lows n.links (allCh n.sets [])) = some m) : firL n = m := by unfold firL; rw [B_true h, h2]; rfl
theorem lows_nil {ls : List Lk} {l : List (List Sp)} (h : okCh ls l = []) : bestL (lows ls l) = none := by unfold lows; rw [h]; rfl
theorem firL_none {n : Net} (h : codeE n true = 0) (h2 : ¬ Sol n) : firL n = [] := by
  unfold firL
  rw [B_true h, lows_nil (Classical.byContradiction fun hh => h2 ((sol_okCh n).2 hh))]
  rfl

/-- two boxes: whether one was found, and the best so far -/
def FoSt (b0 gF gB N : Nat) (ls : List Lk) (l : List (List Sp)) (K : Nat → Prop) (w : World) : Prop :=
  (∀ k, K k ↔ k = gF ∨ k = gB) ∧ (gF ≠ gB ∧ b0 ≤ gF ∧ b0 ≤ gB) ∧ Boxed w gF [.bool (B (l ≠ []))] ∧ ∃ v, Boxed w gB [v] ∧
    (l ≠ [] → ∃ g m, bestL (l.map (lowV ls)) = some m ∧ m.length = N ∧ Own w g 1 v N (intCell m) ∧ (0 < N → g ≠ gF ∧ g ≠ gB ∧ b0 ≤ g))
theorem FoSt.cb (b0 gF gB N : Nat) (ls : List Lk) : CbOk b0 (FoSt b0 gF gB N ls) :=
  ⟨fun h hx => by
    obtain ⟨h1, h2, h3, v, h4, h5⟩ := h
    exact ⟨h1, h2, h3.ext hx, v, h4.ext hx, fun h0 => by
      obtain ⟨g, m, a1, a2, a3, a4⟩ := h5 h0
      exact ⟨g, m, a1, a2, a3.ext hx, a4⟩⟩,
   fun h hk => by
    obtain ⟨h1, h2, h3, v, h4, h5⟩ := h
    rcases (h1 _).1 hk with e | e
    · subst e; exact ⟨h2.2.1, h3.1⟩
    · subst e; exact ⟨h2.2.2, h4.1⟩⟩
theorem FoSt.take {b0 gF gB N g1 : Nat} {ls : List Lk} {l : List (List Sp)} {c : List Sp} {K : Nat → Prop} {w w1 : World} {v1 : Value} (h : FoSt b0 gF gB N ls l K w) (hx : Ext w w1) (hc : c.length = N)
    (ho : Own w1 g1 1 v1 c.length (intCell (lowV ls c))) (hg : 0 < c.length → b0 ≤ g1 ∧ ¬ K g1) (hbest : bestL ((l ++ [c]).map (lowV ls)) = some (lowV ls c)) :
    CbPost (FoSt b0 gF gB N ls) (l ++ [c]) K w (.returned (.tuple #[])) ((w1.setCell ⟨gB, 0, none⟩ v1).setCell ⟨gF, 0, none⟩ (.bool true)) := by
  obtain ⟨h1, h2, h3, v, h4, h5⟩ := h
  have e : B (l ++ [c] ≠ []) = true := B_true (by simp)
  have hne : 0 < c.length → g1 ≠ gF ∧ g1 ≠ gB := fun h0 => ⟨fun e => (hg h0).2 ((h1 _).2 (.inl e)), fun e => (hg h0).2 ((h1 _).2 (.inr e))⟩
  have hoff : Off K w1 ((w1.setCell ⟨gB, 0, none⟩ v1).setCell ⟨gF, 0, none⟩ (.bool true)) :=
    ((Off.refl K w1).setCell (p := ⟨gB, 0, none⟩) (.inl ((h1 _).2 (.inr rfl))) _).setCell (p := ⟨gF, 0, none⟩) (.inl ((h1 _).2 (.inl rfl))) _
  refine ⟨K, rfl, ⟨h1, h2, ?_, v1, ?_, fun _ => ⟨g1, lowV ls c, hbest, by rw [lowV_len, hc], ?_, fun h0 => ⟨(hne (by omega)).1, (hne (by omega)).2, (hg (by omega)).1⟩⟩⟩, (Off.of_ext hx).trans hoff, fun k hk => .inl hk⟩
  · rw [e]
    exact ((h3.ext hx).setOther (p := ⟨gB, 0, none⟩) (by show gF ≠ gB; exact h2.1) _).set 0 (.bool true) (by simp)
  · exact ((h4.ext hx).set 0 v1 (by simp)).setOther (p := ⟨gF, 0, none⟩) (by show gB ≠ gF; exact h2.1.symm) _
  · rw [← hc]
    exact (ho.setOther (p := ⟨gB, 0, none⟩) (fun h0 => (hne h0).2) _).setOther (p := ⟨gF, 0, none⟩) (fun h0 => (hne h0).1) _
theorem best_first {ls : List Lk} {c : List Sp} : bestL (([] ++ [c]).map (lowV ls)) = some (lowV ls c) := by
  rw [List.map_append, List.map_cons, List.map_nil, bestL_snoc]
  rfl
theorem best_yes {ls : List Lk} {l : List (List Sp)} {c : List Sp} {m : List Int} (h : bestL (l.map (lowV ls)) = some m) (h2 : Lex (lowV ls c) m) : bestL ((l ++ [c]).map (lowV ls)) = some (lowV ls c) := by
  rw [List.map_append, List.map_cons, List.map_nil, bestL_snoc, h, pick_yes h2]
theorem best_no {ls : List Lk} {l : List (List Sp)} {c : List Sp} {m : List Int} (h : bestL (l.map (lowV ls)) = some m) (h2 : ¬ Lex (lowV ls c) m) : bestL ((l ++ [c]).map (lowV ls)) = some m := by
  rw [List.map_append, List.map_cons, List.map_nil, bestL_snoc, h, pick_no h2]
theorem FoSt.keep {b0 gF gB N : Nat} {ls : List Lk} {l : List (List Sp)} {c : List Sp} {K : Nat → Prop} {w w1 : World} (h : FoSt b0 gF gB N ls l K w) (hx : Ext w w1) (hl : l ≠ []) (hlex : ∀ m, bestL (l.map (lowV ls)) = some m → ¬ Lex (lowV ls c) m) :
    CbPost (FoSt b0 gF gB N ls) (l ++ [c]) K w (.returned (.tuple #[])) w1 := by
  refine CbPost.same ?_ hx
  obtain ⟨h1, h2, h3, v, h4, h5⟩ := (FoSt.cb b0 gF gB N ls).ext h hx
  have e : B (l ++ [c] ≠ []) = true := B_true (by simp)
  have e2 : B (l ≠ []) = true := B_true hl
  rw [e2] at h3
  obtain ⟨g, m, a1, a2, a3, a4⟩ := h5 hl
  exact ⟨h1, h2, by rw [e]; exact h3, v, h4, fun _ => ⟨g, m, best_no a1 (hlex m a1), a2, a3, a4⟩⟩

set_option maxHeartbeats 2000000 in
theorem FirstSolution_1 (b0 gF gB : Nat) (n : Net) : SbCalls b0 (FoSt b0 gF gB n.sets.length n.links) 55 #[.pointer (some ⟨gF, 0, none⟩), .pointer (some ⟨gB, 0, none⟩)] n := by
  intro l K c v1 v2 g1 g2 w hch hok _ hst ho1 ho2 hg
  obtain ⟨A1, q1, rfl⟩ := ho1.len
  obtain ⟨A2, q2, rfl⟩ := ho2.len
  have Hst := Lib.hid hst
  have Ho1 := Lib.hid ho1
  have Hg := Lib.hid (show 0 < c.length → b0 ≤ g1 ∧ ¬ K g1 from fun h0 => ⟨(hg h0).1, (hg h0).2.2.2.1⟩)
  have Hc := Lib.hid hch.len
  obtain ⟨h1, h2, h3, v, h4, h5⟩ := hst
  have hne := h2.1
  have hne' : gB ≠ gF := fun e => h2.1 e.symm
  have ffz := h3.fz 0 (by simp)
  have bfz := h4.fz 0 (by simp)
  have fb := h3; have fb0 := fb.at0; have fbg := fb.1; have Hfb := Lib.hid fb; clear fb
  have bb := h4; have bb0 := bb.at0; have bbg := bb.1; have Hbb := Lib.hid bb; clear bb
  clear h1 h2 ho1 ho2 hg hok hch
  go_enter Tryz.func55, Tryz.ntmps55
  by_cases hl : l = []
  · have e0 : B (l ≠ []) = false := B_false (by simp [hl])
    have Hb : Hid (bestL ((l ++ [c]).map (lowV n.links)) = some (lowV n.links c)) := Lib.hid (by rw [hl]; exact best_first)
    rw [e0] at fb0
    clear h3 h4 h5 hl e0
    go_wp2_with fail
    refine bodyPost_end (results_none rfl _ _ _) rfl ?_
    exact Hst.out.take (Ext.refl w) Hc.out Ho1.out Hg.out Hb.out
  · have e0 : B (l ≠ []) = true := B_true hl
    obtain ⟨g, m, a1, a2, a3, a4⟩ := h5 hl
    obtain ⟨Av, cv, rfl⟩ := a3.len
    have Ha1 := Lib.hid a1
    have Hl := Lib.hid hl
    have Hi1 : Hid (Ints w 0 w.heap.size (.slice A1 c.length q1) (lowV n.links c)) := Lib.hid (by
      have hh := lowV_len n.links c
      unfold Ints
      rw [hh]
      exact Ho1.out.row (fun h0 => ⟨Nat.zero_le _, Ho1.out.lt h0⟩))
    have Hi2 : Hid (Ints w 0 w.heap.size (.slice Av n.sets.length cv) m) := Lib.hid (by
      unfold Ints
      rw [a2]
      exact a3.row (fun h0 => ⟨Nat.zero_le _, a3.lt h0⟩))
    have Hll := Lib.hid (show (lowV n.links c).length = m.length by rw [lowV_len, a2, Hc.out])
    rw [e0] at fb0
    clear h3 h4 h5 a1 a2 a3 a4 hl e0
    go_wp2_with fail
    refine Calls.mono (slices_Compare_ints _ _ (lowV n.links c) m _ Hi1.out Hi2.out Hll.out) ?_
    rintro e w1 ⟨rfl, rfl⟩
    by_cases hx : Lex (lowV n.links c) m
    · have Hb := Lib.hid (best_yes Ha1.out hx)
      rw [cmpL_lt hx]
      clear hx
      go_wp2_with fail
      refine bodyPost_end (results_none rfl _ _ _) rfl ?_
      exact Hst.out.take (Ext.refl w) Hc.out Ho1.out Hg.out Hb.out
    · have Hx := Lib.hid hx
      obtain ⟨k1, k2⟩ := cmpL_ge hx
      have T : decide (cmpL (lowV n.links c) m < 0) = false := decide_eq_false (by omega)
      clear hx
      go_wp2_with fail
      refine bodyPost_end (results_none rfl _ _ _) rfl ?_
      exact Hst.out.keep (Ext.refl w) Hl.out (fun m' hm' => by rw [Ha1.out] at hm'; injection hm' with hm'; subst hm'; exact Hx.out)

set_option maxHeartbeats 2000000 in
theorem impl_FirstSolution (s k : Value) (n : Net) (w : World) (h : NetIn w s k n) : Calls Tryz.prog 13 #[.agg #[s, k]] w (NewInts2 (firL n) (firE n) w) := by
  have H := Lib.hid h
  have Hv := Lib.hid (B_true (varsOk_nil n))
  clear h
  go_enter Tryz.func13, Tryz.ntmps13
  go_wp2_with fail
  refine Calls.mono (impl_checkChoices s k _ n [] _ (H.out.up (by repeat (first | exact Ext.refl _ | assumption | refine Ext.alloc ?_ _ | refine Ext.drew ?_ | refine Ext.drewN ?_ _ | refine Ext.setCell ?_ (by first | (simp; done) | (simp; omega) | omega) _ | refine Ext.trans ?_ (by assumption)))) (nilInts _)) ?_
  rintro e w1 ⟨rfl, hx1⟩
  rw [Hv.out]
  have hb := (Boxed.new w [s, k] 27).ext hx1; have hb0 := hb.at0; have hb1 := hb.at1; have hbg := hb.1; have Hhb := Lib.hid hb; clear hb
  have hx : Ext w w1 := (by repeat (first | exact Ext.refl _ | assumption | refine Ext.alloc ?_ _ | refine Ext.drew ?_ | refine Ext.drewN ?_ _ | refine Ext.setCell ?_ (by first | (simp; done) | (simp; omega) | omega) _ | refine Ext.trans ?_ (by assumption)))
  clear hx1
  by_cases hc : codeE n true = 0
  · have Hc := Lib.hid hc
    have Hz := Lib.hid (codeE_zero hc)
    have hd : (codeE n true != 0) = false := by rw [hc]; rfl
    have hxa : Ext w1 ((w1.alloc (.cells #[.slice none 0 0] 31)).alloc (.cells #[.bool false] 4)) := (by repeat (first | exact Ext.refl _ | assumption | refine Ext.alloc ?_ _ | refine Ext.drew ?_ | refine Ext.drewN ?_ _ | refine Ext.setCell ?_ (by first | (simp; done) | (simp; omega) | omega) _ | refine Ext.trans ?_ (by assumption)))
    have hb1 : Boxed ((w1.alloc (.cells #[.slice none 0 0] 31)).alloc (.cells #[.bool false] 4)) w1.heap.size [.slice none 0 0] := (Boxed.new w1 [.slice none 0 0] 31).ext (by repeat (first | exact Ext.refl _ | assumption | refine Ext.alloc ?_ _ | refine Ext.drew ?_ | refine Ext.drewN ?_ _ | refine Ext.setCell ?_ (by first | (simp; done) | (simp; omega) | omega) _ | refine Ext.trans ?_ (by assumption)))
    have hb2 : Boxed ((w1.alloc (.cells #[.slice none 0 0] 31)).alloc (.cells #[.bool false] 4)) (w1.heap.size + 1) [.bool false] := by
      have := Boxed.new (w1.alloc (.cells #[.slice none 0 0] 31)) [.bool false] 4
      rwa [World.size_alloc] at this
    have hz := hx.size
    have Hst : Hid (FoSt w.heap.size (w1.heap.size + 1) w1.heap.size n.sets.length n.links [] (fun k => k = w1.heap.size + 1 ∨ k = w1.heap.size) ((w1.alloc (.cells #[.slice none 0 0] 31)).alloc (.cells #[.bool false] 4))) :=
      Lib.hid ⟨fun _ => Iff.rfl, ⟨by omega, by omega, by omega⟩, by rw [B_false (show ¬ (([] : List (List Sp)) ≠ []) by simp)]; exact hb2, _, hb1, fun h0 => absurd rfl h0⟩
    have hxw : Ext w ((w1.alloc (.cells #[.slice none 0 0] 31)).alloc (.cells #[.bool false] 4)) := hx.trans hxa
    have Hxw := Lib.hid hxw
    clear hc hxa hb1 hb2 hxw
    go_wp2_with fail
    refine Calls.mono (impl_solutions (FoSt w.heap.size (w1.heap.size + 1) w1.heap.size n.sets.length n.links) w.heap.size 55 _ s k n _ _ (FoSt.cb _ _ _ _ _) Tryz.call55 (FirstSolution_1 _ _ _ n) (NetFit.of Hz.out.1) (H.out.1.ext Hxw.out (Nat.le_refl _)) (H.out.2.ext Hxw.out (Nat.le_refl _)) Hxw.out.size Hst.out) ?_
    rintro e w2 ⟨K', rfl, hst, hoff, -⟩
    have hx2 : Ext w w2 := Hxw.out.off hoff (fun k hk e => by omega)
    obtain ⟨-, -, h3, v, h4, h5⟩ := hst
    have fb := h3; have fb0 := fb.at0; have fbg := fb.1; have Hfb := Lib.hid fb; clear fb
    have bb := h4; have bb0 := bb.at0; have bbg := bb.1; have Hbb := Lib.hid bb; clear bb
    rw [← B_congr (sol_okCh n)] at fb0
    have Hx2 := Lib.hid hx2
    clear h3 h4 hoff hx2
    by_cases hs : Sol n
    · obtain ⟨g, m, a1, a2, a3, a4⟩ := h5 ((sol_okCh n).1 hs)
      have Hm := Lib.hid (firL_ok Hc.out a1)
      have He := Lib.hid (firE_ok Hc.out hs)
      have Ha2 := Lib.hid a2
      have Ha3 := Lib.hid a3
      have Ha4 := Lib.hid a4
      obtain ⟨Av, cv, rfl⟩ := a3.len
      rw [B_true hs] at fb0
      clear hs h5 a1 a2 a3 a4
      go_wp2_with fail
      go_ret2
      unfold NewInts2
      rw [Hm.out, He.out]
      exact ⟨_, g, rfl, Hx2.out, fun h0 => (Ha4.out (by have := Ha2.out; omega)).2.2, by rw [Ha2.out]; exact Ha3.out⟩
    · have Hm := Lib.hid (firL_none Hc.out hs)
      have He := Lib.hid (firE_none Hc.out hs)
      rw [B_false hs] at fb0
      clear hs h5
      go_wp2_with fail
      go_ret2
      rw [Hm.out, He.out]
      exact NewInts2.nil 4 Hx2.out
  · have Hc := Lib.hid hc
    have hd : (codeE n true != 0) = true := by simp [hc]
    clear hc
    go_wp2_with fail
    go_ret2
    rw [firL_no Hc.out, firE_no Hc.out]
    exact NewInts2.nil _ (by repeat (first | exact Ext.refl _ | assumption | refine Ext.alloc ?_ _ | refine Ext.drew ?_ | refine Ext.drewN ?_ _ | refine Ext.setCell ?_ (by first | (simp; done) | (simp; omega) | omega) _ | refine Ext.trans ?_ (by assumption)))
end Go.Proofs.YtfajmlkiidnhlaaGreat

/- Contracts: the reference's FirstSolution. -/
namespace Go.Proofs.YtfajmlkiidnhlaaGreat
set_option linter.unusedVariables false
set_option linter.unusedSimpArgs false
open Go.RowKit
attribute [local go_sem] cell_onto

theorem okNum_sol (n : Net) : Sol n ↔ okCh n.links (numCh n.sets (prodN n.sets)) ≠ [] := by
  rw [sol_num]
  constructor
  · rintro ⟨k, h1, h2⟩ e
    have := mem_okCh.2 ⟨(mem_numCh (l := n.sets) (c := chN n.sets k) (prodN n.sets)).2 ⟨k, h1, rfl⟩, h2⟩
    rw [e] at this
    cases this
  · intro h
    match hh : okCh n.links (numCh n.sets (prodN n.sets)), h with
    | c :: r, _ =>
      have : c ∈ okCh n.links (numCh n.sets (prodN n.sets)) := by rw [hh]; simp
      obtain ⟨h1, h2⟩ := mem_okCh.1 this
      obtain ⟨i, hi, e⟩ := (mem_numCh _).1 h1
      exact ⟨i, hi, by rw [e]; exact h2⟩
/-- the best so far -/
def FsSt (n : Net) (lo j : Nat) (u : Value) (w : World) : Prop :=
  okCh n.links (numCh n.sets j) ≠ [] → ∃ g m, bestL (lows n.links (numCh n.sets j)) = some m ∧ m.length = n.sets.length ∧ Own w g 1 u n.sets.length (intCell m) ∧ (0 < n.sets.length → lo ≤ g)
theorem FsSt.ext {n : Net} {lo j : Nat} {u : Value} {w w' : World} (h : FsSt n lo j u w) (hx : Ext w w') : FsSt n lo j u w' := fun h0 => by
  obtain ⟨g, m, a1, a2, a3, a4⟩ := h h0
  exact ⟨g, m, a1, a2, a3.ext hx, a4⟩
theorem FsSt.skip {n : Net} {lo j : Nat} {u : Value} {w w' : World} (h : FsSt n lo j u w) (hx : Ext w w') (hno : ¬ ChOk n.links (chN n.sets j)) : FsSt n lo (j + 1) u w' := fun h0 => by
  have e : okCh n.links (numCh n.sets (j + 1)) = okCh n.links (numCh n.sets j) := okCh_no hno
  unfold lows
  rw [e] at h0 ⊢
  exact (h.ext hx) h0
theorem FsSt.take {n : Net} {lo j g1 : Nat} {u v1 : Value} {w' : World} (hok : ChOk n.links (chN n.sets j)) (hl : (chN n.sets j).length = n.sets.length) (ho : Own w' g1 1 v1 (chN n.sets j).length (intCell (lowV n.links (chN n.sets j))))
    (hg : 0 < (chN n.sets j).length → lo ≤ g1) (hb : ∀ m, bestL (lows n.links (numCh n.sets j)) = some m → Lex (lowV n.links (chN n.sets j)) m) : FsSt n lo (j + 1) v1 w' := fun _ => by
  refine ⟨g1, lowV n.links (chN n.sets j), ?_, by rw [lowV_len, hl], by rw [← hl]; exact ho, fun h0 => hg (by omega)⟩
  have e : lows n.links (numCh n.sets (j + 1)) = lows n.links (numCh n.sets j) ++ [lowV n.links (chN n.sets j)] := by
    unfold lows
    rw [numCh, okCh_yes hok, List.map_append, List.map_cons, List.map_nil]
  rw [e, bestL_snoc]
  match hh : bestL (lows n.links (numCh n.sets j)) with
  | none => rfl
  | some m => exact pick_yes (hb m hh)
theorem FsSt.keep {n : Net} {lo j : Nat} {u : Value} {w w' : World} {m : List Int} (h : FsSt n lo j u w) (hx : Ext w w') (hok : ChOk n.links (chN n.sets j)) (h0 : okCh n.links (numCh n.sets j) ≠ []) (hm : bestL (lows n.links (numCh n.sets j)) = some m)
    (hb : ¬ Lex (lowV n.links (chN n.sets j)) m) : FsSt n lo (j + 1) u w' := fun _ => by
  obtain ⟨g, m', a1, a2, a3, a4⟩ := (h.ext hx) h0
  rw [hm] at a1
  injection a1 with a1
  subst a1
  refine ⟨g, m, ?_, a2, a3, a4⟩
  have e : lows n.links (numCh n.sets (j + 1)) = lows n.links (numCh n.sets j) ++ [lowV n.links (chN n.sets j)] := by
    unfold lows
    rw [numCh, okCh_yes hok, List.map_append, List.map_cons, List.map_nil]
  rw [e, bestL_snoc, hm, pick_no hb]
theorem okNum_yes {n : Net} {j : Nat} (h : ChOk n.links (chN n.sets j)) : okCh n.links (numCh n.sets (j + 1)) ≠ [] := by
  rw [numCh, okCh_yes h]; simp
theorem okNum_no {n : Net} {j : Nat} (h : ¬ ChOk n.links (chN n.sets j)) : okCh n.links (numCh n.sets (j + 1)) = okCh n.links (numCh n.sets j) := okCh_no h

theorem firL_small (n : Net) (hn : Small n) : (firL n).length ≤ 1048576 := by
  by_cases h : codeE n true = 0
  · by_cases h2 : Sol n
    · have hl : ∀ x, x ∈ lows n.links (allCh n.sets []) → x.length = n.sets.length := fun x hx => by
        unfold lows at hx
        obtain ⟨c, hc, e⟩ := List.mem_map.1 hx
        rw [← e, lowV_len]
        exact mem_allCh_len (mem_okCh.1 hc).1
      have h0 : lows n.links (allCh n.sets []) ≠ [] := fun e => by
        have := (sol_okCh n).1 h2
        unfold lows at e
        exact this (List.map_eq_nil_iff.1 e)
      obtain ⟨m, h3, h4, _⟩ := best_some hl h0
      rw [firL_ok h h3, hl m h4]
      have := (codeE_zero h).1.1
      omega
    · rw [firL_none h h2]; exact Nat.zero_le _
  · rw [firL_no h]; exact Nat.zero_le _
set_option maxHeartbeats 8000000 in
theorem spec_FirstSolution (s k : Value) (n : Net) (w : World) (h : NetIn w s k n) : Calls Tryz.prog 14 #[.agg #[s, k]] w (NewInts2 (firL n) (firE n) w) := by
  have H := Lib.hid h
  clear h
  go_enter Tryz.func14, Tryz.ntmps14
  go_wp2_with fail
  refine Calls.mono (spec_l20Code s k n true _ (H.out.up (by repeat (first | exact Ext.refl _ | assumption | refine Ext.alloc ?_ _ | refine Ext.drew ?_ | refine Ext.drewN ?_ _ | refine Ext.setCell ?_ (by first | (simp; done) | (simp; omega) | omega) _ | refine Ext.trans ?_ (by assumption))))) ?_
  rintro e w1 ⟨rfl, hx1⟩
  have hb := (Boxed.new w [s, k] 27).ext hx1; have hb0 := hb.at0; have hb1 := hb.at1; have hbg := hb.1; have Hhb := Lib.hid hb; clear hb
  have hx : Ext w w1 := (by repeat (first | exact Ext.refl _ | assumption | refine Ext.alloc ?_ _ | refine Ext.drew ?_ | refine Ext.drewN ?_ _ | refine Ext.setCell ?_ (by first | (simp; done) | (simp; omega) | omega) _ | refine Ext.trans ?_ (by assumption)))
  have Hb1 : Hid (Boxed w1 w.heap.size [s, k]) := Lib.hid Hhb.out
  clear hx1
  by_cases hc : codeE n true = 0
  · have Hc := Lib.hid hc
    have Hfit := Lib.hid (NetFit.of (codeE_zero hc).1)
    have hfew : prodN n.sets ≤ 4096 := few_of (codeE_zero hc).2.2
    have Hcn := Lib.hid (choN_small hfew)
    have hd : (codeE n true != 0) = false := by rw [hc]; rfl
    clear hc
    go_wp2_with fail
    go_loopg [5, 6, 7, 8, 9, 10] (prodN n.sets) (fun q u5 u6 i u8 u9 u10 wr => ∃ j : Nat, j + q = prodN n.sets ∧ i = .int .i64 j ∧ u6 = .bool (B (okCh n.links (numCh n.sets j) ≠ [])) ∧ Ext w wr ∧ Boxed wr w.heap.size [s, k] ∧ Hid (FsSt n w.heap.size j u5 wr))
    case atStart => exact ⟨0, by omega, rfl, by rw [B_false (show ¬ (okCh n.links (numCh n.sets 0) ≠ []) by simp [numCh, okCh])], (by repeat (first | exact Ext.refl _ | assumption | refine Ext.alloc ?_ _ | refine Ext.drew ?_ | refine Ext.drewN ?_ _ | refine Ext.setCell ?_ (by first | (simp; done) | (simp; omega) | omega) _ | refine Ext.trans ?_ (by assumption))), Hb1.out.ext (by repeat (first | exact Ext.refl _ | assumption | refine Ext.alloc ?_ _ | refine Ext.drew ?_ | refine Ext.drewN ?_ _ | refine Ext.setCell ?_ (by first | (simp; done) | (simp; omega) | omega) _ | refine Ext.trans ?_ (by assumption))), Lib.hid (fun h0 => absurd h0 (by simp [numCh, okCh]))⟩
    clear hb0 hb1 hbg Hhb Hb1
    case round =>
      obtain ⟨j, hj, rfl, rfl, hx, hnb, Hst⟩ := hrel
      have nb := hnb; have nb0 := nb.at0; have nb1 := nb.at1; have nbg := nb.1; have Hnb := Lib.hid nb; clear nb
      clear hnb
      go_wp2_with fail
      refine Calls.mono (spec_l20Count s k n wr (H.out.up hx) Hfit.out.fit) ?_
      rintro e w2 ⟨rfl, hx2⟩
      rw [Hcn.out]
      have mb := Hnb.out.ext hx2; have mb0 := mb.at0; have mb1 := mb.at1; have mbg := mb.1; have Hmb := Lib.hid mb; clear mb
      have hxw2 : Ext w w2 := hx.trans hx2
      have Hn2 : Hid (Boxed w2 w.heap.size [s, k]) := Lib.hid Hmb.out
      have Hst2 := Lib.hid (Hst.out.ext hx2)
      clear nb0 nb1 nbg Hnb hx hx2 Hst
      by_cases hlt : j < prodN n.sets
      · have T1 : decide ((j : Int) < (prodN n.sets : Int)) = true := decide_eq_true (by omega)
        have Hch := Lib.hid (Hfit.out.ch (chN_isCh n.sets j hlt))
        have h8 := Hfit.out.s8
        have h21 := Hfit.out.k21
        go_wp2_with fail
        go_region_law (first
          | (go_simp; go_at_call 59; refine Calls.mono (spec_l20Choice s k n j _ (H.out.up (by repeat (first | exact Ext.refl _ | assumption | refine Ext.alloc ?_ _ | refine Ext.drew ?_ | refine Ext.drewN ?_ _ | refine Ext.setCell ?_ (by first | (simp; done) | (simp; omega) | omega) _ | refine Ext.trans ?_ (by assumption)))) hlt (by omega) h8 Hfit.out.fit) ?_; rintro e wc ⟨uv, rfl, hxc, huc⟩; have Huc := Lib.hid (Spans.of_owned huc); have hxwc : Ext w2 wc := (by repeat (first | exact Ext.refl _ | assumption | refine Ext.alloc ?_ _ | refine Ext.drew ?_ | refine Ext.drewN ?_ _ | refine Ext.setCell ?_ (by first | (simp; done) | (simp; omega) | omega) _ | refine Ext.trans ?_ (by assumption))); have cb := Hn2.out.ext hxwc; have cb0 := cb.at0; have cb1 := cb.at1; have cbg := cb.1; have Hcb := Lib.hid cb; clear cb; clear huc)
          | (go_simp; go_at_call 58; refine Calls.mono (spec_l20Bounds s k uv n (chN n.sets j) _ (H.out.up (by repeat (first | exact Ext.refl _ | assumption | refine Ext.alloc ?_ _ | refine Ext.drew ?_ | refine Ext.drewN ?_ _ | refine Ext.setCell ?_ (by first | (simp; done) | (simp; omega) | omega) _ | refine Ext.trans ?_ (by assumption)))) (Huc.out.up (by repeat (first | exact Ext.refl _ | assumption | refine Ext.alloc ?_ _ | refine Ext.drew ?_ | refine Ext.drewN ?_ _ | refine Ext.setCell ?_ (by first | (simp; done) | (simp; omega) | omega) _ | refine Ext.trans ?_ (by assumption)))) Hch.out.2.1 h21 Hch.out.2.2.1 Hch.out.2.2.2) ?_; rintro e w3 ⟨v1, v2, rfl, hxb, hbb⟩; have Hbb := Lib.hid hbb; clear hbb))
        all_goals
          have hx23 : Ext w2 w3 := (by repeat (first | exact Ext.refl _ | assumption | refine Ext.alloc ?_ _ | refine Ext.drew ?_ | refine Ext.drewN ?_ _ | refine Ext.setCell ?_ (by first | (simp; done) | (simp; omega) | omega) _ | refine Ext.trans ?_ (by assumption)))
          have hxw3 : Ext w w3 := hxw2.trans hx23
          have Hn3 := Lib.hid (Hn2.out.ext hx23)
          by_cases hok : ChOk n.links (chN n.sets j)
          · have Hok := Lib.hid hok
            obtain ⟨g1, g2, hg, ho1, ho2⟩ := Hbb.out hok
            obtain ⟨A1, q1, rfl⟩ := ho1.len
            have Hg := Lib.hid (show 0 < (chN n.sets j).length → w.heap.size ≤ g1 from fun h0 => by have h1 := (hg h0).1; have h2 := hxwc.size; have h3 := hxw2.size; omega)
            have Ho1 := Lib.hid ho1
            rw [B_true hok]
            clear hok hg ho1 ho2
            by_cases hf : okCh n.links (numCh n.sets j) = []
            · have e0 := B_false (show ¬ (okCh n.links (numCh n.sets j) ≠ []) by simp [hf])
              have Hnew := Lib.hid (FsSt.take (n := n) (u := .bool true) Hok.out Hch.out.1 Ho1.out Hg.out (fun m hm => by rw [lows_nil hf] at hm; cases hm))
              have Hft := Lib.hid (B_true (okNum_yes Hok.out))
              rw [e0]
              clear hf e0
              go_wp2_with fail
              go_roundg (prodN n.sets - (j + 1))
              case measure => omega
              case rel => exact ⟨j + 1, by omega, by go_num, by rw [Hft.out], (by repeat (first | exact Ext.refl _ | assumption | refine Ext.alloc ?_ _ | refine Ext.drew ?_ | refine Ext.drewN ?_ _ | refine Ext.setCell ?_ (by first | (simp; done) | (simp; omega) | omega) _ | refine Ext.trans ?_ (by assumption))), Hn3.out.ext (by repeat (first | exact Ext.refl _ | assumption | refine Ext.alloc ?_ _ | refine Ext.drew ?_ | refine Ext.drewN ?_ _ | refine Ext.setCell ?_ (by first | (simp; done) | (simp; omega) | omega) _ | refine Ext.trans ?_ (by assumption))), Lib.hid (Hnew.out.ext (by repeat (first | exact Ext.refl _ | assumption | refine Ext.alloc ?_ _ | refine Ext.drew ?_ | refine Ext.drewN ?_ _ | refine Ext.setCell ?_ (by first | (simp; done) | (simp; omega) | omega) _ | refine Ext.trans ?_ (by assumption))))⟩
            · have e0 := B_true (show okCh n.links (numCh n.sets j) ≠ [] from hf)
              obtain ⟨g, m, a1, a2, a3, a4⟩ := Hst2.out hf
              obtain ⟨Av, cv, rfl⟩ := a3.len
              have Hf := Lib.hid hf
              have Ha1 := Lib.hid a1
              have Hft := Lib.hid (B_true (okNum_yes Hok.out))
              have Hi1 : Hid (Ints w3 0 w3.heap.size (.slice A1 (chN n.sets j).length q1) (lowV n.links (chN n.sets j))) := Lib.hid (by
                have hh := lowV_len n.links (chN n.sets j)
                unfold Ints
                rw [hh]
                exact Ho1.out.row (fun h0 => ⟨Nat.zero_le _, Ho1.out.lt h0⟩))
              have Hi2 : Hid (Ints w3 0 w3.heap.size (.slice Av n.sets.length cv) m) := Lib.hid (by
                have a5 := a3.ext hx23
                unfold Ints
                rw [a2]
                exact a5.row (fun h0 => ⟨Nat.zero_le _, a5.lt h0⟩))
              have Hll := Lib.hid (show (lowV n.links (chN n.sets j)).length = m.length by rw [lowV_len, a2, Hch.out.1])
              rw [e0]
              clear a1 a2 a3 a4 hf e0
              go_wp2_with fail
              refine Calls.mono (spec_l20Less _ _ (lowV n.links (chN n.sets j)) m _ Hi1.out Hi2.out Hll.out) ?_
              rintro e w4 ⟨rfl, hx4⟩
              by_cases hlx : Lex (lowV n.links (chN n.sets j)) m
              · have Hnew := Lib.hid (FsSt.take (n := n) (u := .bool true) Hok.out Hch.out.1 Ho1.out Hg.out (fun m' hm' => by rw [Ha1.out] at hm'; injection hm' with hm'; subst hm'; exact hlx))
                rw [B_true hlx]
                clear hlx
                go_wp2_with fail
                go_roundg (prodN n.sets - (j + 1))
                case measure => omega
                case rel => exact ⟨j + 1, by omega, by go_num, by rw [Hft.out], (by repeat (first | exact Ext.refl _ | assumption | refine Ext.alloc ?_ _ | refine Ext.drew ?_ | refine Ext.drewN ?_ _ | refine Ext.setCell ?_ (by first | (simp; done) | (simp; omega) | omega) _ | refine Ext.trans ?_ (by assumption))), Hn3.out.ext (by repeat (first | exact Ext.refl _ | assumption | refine Ext.alloc ?_ _ | refine Ext.drew ?_ | refine Ext.drewN ?_ _ | refine Ext.setCell ?_ (by first | (simp; done) | (simp; omega) | omega) _ | refine Ext.trans ?_ (by assumption))), Lib.hid (Hnew.out.ext (by repeat (first | exact Ext.refl _ | assumption | refine Ext.alloc ?_ _ | refine Ext.drew ?_ | refine Ext.drewN ?_ _ | refine Ext.setCell ?_ (by first | (simp; done) | (simp; omega) | omega) _ | refine Ext.trans ?_ (by assumption))))⟩
              · have Hnew := Lib.hid (FsSt.keep Hst2.out (hx23.trans hx4) Hok.out Hf.out Ha1.out hlx)
                have Hft2 := Lib.hid (B_true Hf.out)
                rw [B_false hlx]
                clear hlx
                go_wp2_with fail
                go_roundg (prodN n.sets - (j + 1))
                case measure => omega
                case rel => exact ⟨j + 1, by omega, by go_num, by rw [Hft.out], (by repeat (first | exact Ext.refl _ | assumption | refine Ext.alloc ?_ _ | refine Ext.drew ?_ | refine Ext.drewN ?_ _ | refine Ext.setCell ?_ (by first | (simp; done) | (simp; omega) | omega) _ | refine Ext.trans ?_ (by assumption))), Hn3.out.ext (by repeat (first | exact Ext.refl _ | assumption | refine Ext.alloc ?_ _ | refine Ext.drew ?_ | refine Ext.drewN ?_ _ | refine Ext.setCell ?_ (by first | (simp; done) | (simp; omega) | omega) _ | refine Ext.trans ?_ (by assumption))), Lib.hid (Hnew.out.ext (by repeat (first | exact Ext.refl _ | assumption | refine Ext.alloc ?_ _ | refine Ext.drew ?_ | refine Ext.drewN ?_ _ | refine Ext.setCell ?_ (by first | (simp; done) | (simp; omega) | omega) _ | refine Ext.trans ?_ (by assumption))))⟩
          · have Hnew := Lib.hid (Hst2.out.skip hx23 hok)
            have Hft := Lib.hid (okNum_no hok)
            rw [B_false hok]
            clear hok
            go_wp2_with fail
            go_roundg (prodN n.sets - (j + 1))
            case measure => omega
            case rel => exact ⟨j + 1, by omega, by go_num, by rw [Hft.out], (by repeat (first | exact Ext.refl _ | assumption | refine Ext.alloc ?_ _ | refine Ext.drew ?_ | refine Ext.drewN ?_ _ | refine Ext.setCell ?_ (by first | (simp; done) | (simp; omega) | omega) _ | refine Ext.trans ?_ (by assumption))), Hn3.out.ext (by repeat (first | exact Ext.refl _ | assumption | refine Ext.alloc ?_ _ | refine Ext.drew ?_ | refine Ext.drewN ?_ _ | refine Ext.setCell ?_ (by first | (simp; done) | (simp; omega) | omega) _ | refine Ext.trans ?_ (by assumption))), Lib.hid (Hnew.out.ext (by repeat (first | exact Ext.refl _ | assumption | refine Ext.alloc ?_ _ | refine Ext.drew ?_ | refine Ext.drewN ?_ _ | refine Ext.setCell ?_ (by first | (simp; done) | (simp; omega) | omega) _ | refine Ext.trans ?_ (by assumption))))⟩
      · obtain rfl : j = prodN n.sets := by omega
        have T1 : decide (((prodN n.sets : Nat) : Int) < (prodN n.sets : Int)) = false := decide_eq_false (by omega)
        have Hso := Lib.hid (B_congr (okNum_sol n)).symm
        rw [Hso.out]
        by_cases hs : Sol n
        · obtain ⟨g, m, a1, a2, a3, a4⟩ := Hst2.out ((okNum_sol n).1 hs)
          obtain ⟨Av, cv, rfl⟩ := a3.len
          rw [best_both] at a1
          have Hm := Lib.hid (firL_ok Hc.out a1)
          have He := Lib.hid (firE_ok Hc.out hs)
          have Ha2 := Lib.hid a2
          have Ha3 := Lib.hid a3
          have Ha4 := Lib.hid a4
          rw [B_true hs]
          clear hs a1 a2 a3 a4
          go_wp2_with fail
          go_ret2
          unfold NewInts2
          rw [Hm.out, He.out]
          exact ⟨_, g, rfl, (by repeat (first | exact Ext.refl _ | assumption | refine Ext.alloc ?_ _ | refine Ext.drew ?_ | refine Ext.drewN ?_ _ | refine Ext.setCell ?_ (by first | (simp; done) | (simp; omega) | omega) _ | refine Ext.trans ?_ (by assumption))), fun h0 => Ha4.out (by have := Ha2.out; omega), by rw [Ha2.out]; exact Ha3.out⟩
        · have Hm := Lib.hid (firL_none Hc.out hs)
          have He := Lib.hid (firE_none Hc.out hs)
          rw [B_false hs]
          clear hs
          go_wp2_with fail
          go_ret2
          rw [Hm.out, He.out]
          exact NewInts2.nil 4 (by repeat (first | exact Ext.refl _ | assumption | refine Ext.alloc ?_ _ | refine Ext.drew ?_ | refine Ext.drewN ?_ _ | refine Ext.setCell ?_ (by first | (simp; done) | (simp; omega) | omega) _ | refine Ext.trans ?_ (by assumption)))
  · have Hc := Lib.hid hc
    have hd : (codeE n true != 0) = true := by simp [hc]
    clear hc
    go_wp2_with fail
    go_ret2
    rw [firL_no Hc.out, firE_no Hc.out]
    exact NewInts2.nil _ (by repeat (first | exact Ext.refl _ | assumption | refine Ext.alloc ?_ _ | refine Ext.drew ?_ | refine Ext.drewN ?_ _ | refine Ext.setCell ?_ (by first | (simp; done) | (simp; omega) | omega) _ | refine Ext.trans ?_ (by assumption)))
end Go.Proofs.YtfajmlkiidnhlaaGreat
