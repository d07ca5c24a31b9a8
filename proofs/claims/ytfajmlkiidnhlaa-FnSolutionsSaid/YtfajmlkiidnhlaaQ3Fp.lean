/- Texts merged (a claim holds at most sixty files): Fp, Ys. -/
import Derived.Test.YtfajmlkiidnhlaaQ3Ha
import Derived.Test.YtfajmlkiidnhlaaQ3Fs
import Derived.Test.YtfajmlkiidnhlaaQ3K
import Derived.Deep.RegionLaw
import Derived.Test.YtfajmlkiidnhlaaQ3Zs
import Derived.Test.YtfajmlkiidnhlaaQ3Gv
/- Contracts: FirstSolution. -/
namespace Go.Proofs.Ytfajmlkiidnhlaa
set_option linter.unusedVariables false
set_option linter.unusedSimpArgs false
open Go.RowKit
attribute [local go_sem] cell_onto

/-- the code and the first solution -/
noncomputable def firE (n : Net) : Int := bif B (codeE n true = 0) then (bif B (Sol n) then 0 else 4) else codeE n true
noncomputable def firL (n : Net) : List Int := bif B (codeE n true = 0) then (bestL (lows n.links (allCh n.sets []))).getD [] else []
theorem firE_no {n : Net} (h : codeE n true ≠ 0) : firE n = codeE n true := by unfold firE; rw [B_false h]; rfl
theorem firE_none {n : Net} (h : codeE n true = 0) (h2 : ¬ Sol n) : firE n = 4 := by unfold firE; rw [B_true h, B_false h2]; rfl
theorem firE_ok {n : Net} (h : codeE n true = 0) (h2 : Sol n) : firE n = 0 := by unfold firE; rw [B_true h, B_true h2]; rfl
theorem firL_no {n : Net} (h : codeE n true ≠ 0) : firL n = [] := by unfold firL; rw [B_false h]; rfl
theorem firL_ok {n : Net} {m : List Int} (h : codeE n true = 0) (h2 : bestL (lows n.links (allCh n.sets [])) = some m) : firL n = m := by unfold firL; rw [B_true h, h2]; rfl
theorem lows_nil {ls : List Lk} {l : List (List Sp)} (h : okCh ls l = []) : bestL (lows ls l) = none := by unfold lows; rw [h]; rfl
theorem firL_none {n : Net} (h : codeE n true = 0) (h2 : ¬ Sol n) : firL n = [] := by
  unfold firL
  rw [B_true h, lows_nil (Classical.byContradiction fun hh => h2 ((sol_okCh n).2 hh))]
  rfl

/-- two boxes: whether one was found, and the best so far -/
def FoSt (b0 gF gB N : Nat) (ls : List Lk) (l : List (List Sp)) (K : Nat → Prop) (w : World) : Prop :=
  (∀ k, K k ↔ k = gF ∨ k = gB) ∧ (gF ≠ gB ∧ b0 ≤ gF ∧ b0 ≤ gB) ∧ Boxed w gF [.bool (B (l ≠ []))] ∧ ∃ v, Boxed w gB [v] ∧
    (l ≠ [] → ∃ g m, bestL (l.map (lowV ls)) = some m ∧ m.length = N ∧ Own w g 1 v N (intCell m) ∧ (0 < N → g ≠ gF ∧ g ≠ gB ∧ b0 ≤ g))
theorem FoSt.cb (b0 gF gB N : Nat) (ls : List Lk) : CbOk b0 (FoSt b0 gF gB N ls) :=
  ⟨fun h hx => by
    obtain ⟨h1, h2, h3, v, h4, h5⟩ := h
    exact ⟨h1, h2, h3.ext hx, v, h4.ext hx, fun h0 => by
      obtain ⟨g, m, a1, a2, a3, a4⟩ := h5 h0
      exact ⟨g, m, a1, a2, a3.ext hx, a4⟩⟩,
   fun h hk => by
    obtain ⟨h1, h2, h3, v, h4, h5⟩ := h
    rcases (h1 _).1 hk with e | e
    · subst e; exact ⟨h2.2.1, h3.1⟩
    · subst e; exact ⟨h2.2.2, h4.1⟩⟩
theorem FoSt.take {b0 gF gB N g1 : Nat} {ls : List Lk} {l : List (List Sp)} {c : List Sp} {K : Nat → Prop} {w w1 : World} {v1 : Value} (h : FoSt b0 gF gB N ls l K w) (hx : Ext w w1) (hc : c.length = N)
    (ho : Own w1 g1 1 v1 c.length (intCell (lowV ls c))) (hg : 0 < c.length → b0 ≤ g1 ∧ ¬ K g1) (hbest : bestL ((l ++ [c]).map (lowV ls)) = some (lowV ls c)) :
    CbPost (FoSt b0 gF gB N ls) (l ++ [c]) K w (.returned (.tuple #[])) ((w1.setCell ⟨gB, 0, none⟩ v1).setCell ⟨gF, 0, none⟩ (.bool true)) := by
  obtain ⟨h1, h2, h3, v, h4, h5⟩ := h
  have e : B (l ++ [c] ≠ []) = true := B_true (by simp)
  have hne : 0 < c.length → g1 ≠ gF ∧ g1 ≠ gB := fun h0 => ⟨fun e => (hg h0).2 ((h1 _).2 (.inl e)), fun e => (hg h0).2 ((h1 _).2 (.inr e))⟩
  have hoff : Off K w1 ((w1.setCell ⟨gB, 0, none⟩ v1).setCell ⟨gF, 0, none⟩ (.bool true)) :=
    ((Off.refl K w1).setCell (p := ⟨gB, 0, none⟩) (.inl ((h1 _).2 (.inr rfl))) _).setCell (p := ⟨gF, 0, none⟩) (.inl ((h1 _).2 (.inl rfl))) _
  refine ⟨K, rfl, ⟨h1, h2, ?_, v1, ?_, fun _ => ⟨g1, lowV ls c, hbest, by rw [lowV_len, hc], ?_, fun h0 => ⟨(hne (by omega)).1, (hne (by omega)).2, (hg (by omega)).1⟩⟩⟩, (Off.of_ext hx).trans hoff, fun k hk => .inl hk⟩
  · rw [e]
    exact ((h3.ext hx).setOther (p := ⟨gB, 0, none⟩) (by show gF ≠ gB; exact h2.1) _).set 0 (.bool true) (by simp)
  · exact ((h4.ext hx).set 0 v1 (by simp)).setOther (p := ⟨gF, 0, none⟩) (by show gB ≠ gF; exact h2.1.symm) _
  · rw [← hc]
    exact (ho.setOther (p := ⟨gB, 0, none⟩) (fun h0 => (hne h0).2) _).setOther (p := ⟨gF, 0, none⟩) (fun h0 => (hne h0).1) _
theorem best_first {ls : List Lk} {c : List Sp} : bestL (([] ++ [c]).map (lowV ls)) = some (lowV ls c) := by
  rw [List.map_append, List.map_cons, List.map_nil, bestL_snoc]
  rfl
theorem best_yes {ls : List Lk} {l : List (List Sp)} {c : List Sp} {m : List Int} (h : bestL (l.map (lowV ls)) = some m) (h2 : Lex (lowV ls c) m) : bestL ((l ++ [c]).map (lowV ls)) = some (lowV ls c) := by
  rw [List.map_append, List.map_cons, List.map_nil, bestL_snoc, h, pick_yes h2]
theorem best_no {ls : List Lk} {l : List (List Sp)} {c : List Sp} {m : List Int} (h : bestL (l.map (lowV ls)) = some m) (h2 : ¬ Lex (lowV ls c) m) : bestL ((l ++ [c]).map (lowV ls)) = some m := by
  rw [List.map_append, List.map_cons, List.map_nil, bestL_snoc, h, pick_no h2]
theorem FoSt.keep {b0 gF gB N : Nat} {ls : List Lk} {l : List (List Sp)} {c : List Sp} {K : Nat → Prop} {w w1 : World} (h : FoSt b0 gF gB N ls l K w) (hx : Ext w w1) (hl : l ≠ []) (hlex : ∀ m, bestL (l.map (lowV ls)) = some m → ¬ Lex (lowV ls c) m) :
    CbPost (FoSt b0 gF gB N ls) (l ++ [c]) K w (.returned (.tuple #[])) w1 := by
  refine CbPost.same ?_ hx
  obtain ⟨h1, h2, h3, v, h4, h5⟩ := (FoSt.cb b0 gF gB N ls).ext h hx
  have e : B (l ++ [c] ≠ []) = true := B_true (by simp)
  have e2 : B (l ≠ []) = true := B_true hl
  rw [e2] at h3
  obtain ⟨g, m, a1, a2, a3, a4⟩ := h5 hl
  exact ⟨h1, h2, by rw [e]; exact h3, v, h4, fun _ => ⟨g, m, best_no a1 (hlex m a1), a2, a3, a4⟩⟩

set_option maxHeartbeats 2000000 in
theorem FirstSolution_1 (b0 gF gB : Nat) (n : Net) : SbCalls b0 (FoSt b0 gF gB n.sets.length n.links) 109 #[.pointer (some ⟨gF, 0, none⟩), .pointer (some ⟨gB, 0, none⟩)] n := by
  intro l K c v1 v2 g1 g2 w hch hok _ hst ho1 ho2 hg
  obtain ⟨A1, q1, rfl⟩ := ho1.len
  obtain ⟨A2, q2, rfl⟩ := ho2.len
  have Hst := Lib.hid hst
  have Ho1 := Lib.hid ho1
  have Hg := Lib.hid (show 0 < c.length → b0 ≤ g1 ∧ ¬ K g1 from fun h0 => ⟨(hg h0).1, (hg h0).2.2.2.1⟩)
  have Hc := Lib.hid hch.len
  obtain ⟨h1, h2, h3, v, h4, h5⟩ := hst
  have hne := h2.1
  have hne' : gB ≠ gF := fun e => h2.1 e.symm
  have ffz := h3.fz 0 (by simp)
  have bfz := h4.fz 0 (by simp)
  have fb := h3; have fb0 := fb.at0; have fbg := fb.1; have Hfb := Lib.hid fb; clear fb
  have bb := h4; have bb0 := bb.at0; have bbg := bb.1; have Hbb := Lib.hid bb; clear bb
  clear h1 h2 ho1 ho2 hg hok hch
  go_enter Try.func109, Try.ntmps109
  by_cases hl : l = []
  · have e0 : B (l ≠ []) = false := B_false (by simp [hl])
    have Hb : Hid (bestL ((l ++ [c]).map (lowV n.links)) = some (lowV n.links c)) := Lib.hid (by rw [hl]; exact best_first)
    rw [e0] at fb0
    clear h3 h4 h5 hl e0
    go_wp2_with fail
    refine bodyPost_end (results_none rfl _ _ _) rfl ?_
    exact Hst.out.take (Ext.refl w) Hc.out Ho1.out Hg.out Hb.out
  · have e0 : B (l ≠ []) = true := B_true hl
    obtain ⟨g, m, a1, a2, a3, a4⟩ := h5 hl
    obtain ⟨Av, cv, rfl⟩ := a3.len
    have Ha1 := Lib.hid a1
    have Hl := Lib.hid hl
    have Hi1 : Hid (Ints w 0 w.heap.size (.slice A1 c.length q1) (lowV n.links c)) := Lib.hid (by
      have hh := lowV_len n.links c
      unfold Ints
      rw [hh]
      exact Ho1.out.row (fun h0 => ⟨Nat.zero_le _, Ho1.out.lt h0⟩))
    have Hi2 : Hid (Ints w 0 w.heap.size (.slice Av n.sets.length cv) m) := Lib.hid (by
      unfold Ints
      rw [a2]
      exact a3.row (fun h0 => ⟨Nat.zero_le _, a3.lt h0⟩))
    have Hll := Lib.hid (show (lowV n.links c).length = m.length by rw [lowV_len, a2, Hc.out])
    rw [e0] at fb0
    clear h3 h4 h5 a1 a2 a3 a4 hl e0
    go_wp2_with fail
    refine Calls.mono (slices_Compare_ints _ _ (lowV n.links c) m _ Hi1.out Hi2.out Hll.out) ?_
    rintro e w1 ⟨rfl, rfl⟩
    by_cases hx : Lex (lowV n.links c) m
    · have Hb := Lib.hid (best_yes Ha1.out hx)
      rw [cmpL_lt hx]
      clear hx
      go_wp2_with fail
      refine bodyPost_end (results_none rfl _ _ _) rfl ?_
      exact Hst.out.take (Ext.refl w) Hc.out Ho1.out Hg.out Hb.out
    · have Hx := Lib.hid hx
      obtain ⟨k1, k2⟩ := cmpL_ge hx
      have T : decide (cmpL (lowV n.links c) m < 0) = false := decide_eq_false (by omega)
      clear hx
      go_wp2_with fail
      refine bodyPost_end (results_none rfl _ _ _) rfl ?_
      exact Hst.out.keep (Ext.refl w) Hl.out (fun m' hm' => by rw [Ha1.out] at hm'; injection hm' with hm'; subst hm'; exact Hx.out)

set_option maxHeartbeats 2000000 in
theorem impl_FirstSolution (s k : Value) (n : Net) (w : World) (h : NetIn w s k n) : Calls Try.prog 23 #[.agg #[s, k]] w (NewInts2 (firL n) (firE n) w) := by
  have H := Lib.hid h
  have Hv := Lib.hid (B_true (varsOk_nil n))
  clear h
  go_enter Try.func23, Try.ntmps23
  go_wp2_with fail
  refine Calls.mono (impl_checkChoices s k _ n [] _ (H.out.up (by repeat (first | exact Ext.refl _ | assumption | refine Ext.alloc ?_ _ | refine Ext.drew ?_ | refine Ext.drewN ?_ _ | refine Ext.setCell ?_ (by first | (simp; done) | (simp; omega) | omega) _ | refine Ext.trans ?_ (by assumption)))) (nilInts _)) ?_
  rintro e w1 ⟨rfl, hx1⟩
  rw [Hv.out]
  have hb := (Boxed.new w [s, k] 27).ext hx1; have hb0 := hb.at0; have hb1 := hb.at1; have hbg := hb.1; have Hhb := Lib.hid hb; clear hb
  have hx : Ext w w1 := (by repeat (first | exact Ext.refl _ | assumption | refine Ext.alloc ?_ _ | refine Ext.drew ?_ | refine Ext.drewN ?_ _ | refine Ext.setCell ?_ (by first | (simp; done) | (simp; omega) | omega) _ | refine Ext.trans ?_ (by assumption)))
  clear hx1
  by_cases hc : codeE n true = 0
  · have Hc := Lib.hid hc
    have Hz := Lib.hid (codeE_zero hc)
    have hd : (codeE n true != 0) = false := by rw [hc]; rfl
    have hxa : Ext w1 ((w1.alloc (.cells #[.slice none 0 0] 28)).alloc (.cells #[.bool false] 4)) := (by repeat (first | exact Ext.refl _ | assumption | refine Ext.alloc ?_ _ | refine Ext.drew ?_ | refine Ext.drewN ?_ _ | refine Ext.setCell ?_ (by first | (simp; done) | (simp; omega) | omega) _ | refine Ext.trans ?_ (by assumption)))
    have hb1 : Boxed ((w1.alloc (.cells #[.slice none 0 0] 28)).alloc (.cells #[.bool false] 4)) w1.heap.size [.slice none 0 0] := (Boxed.new w1 [.slice none 0 0] 28).ext (by repeat (first | exact Ext.refl _ | assumption | refine Ext.alloc ?_ _ | refine Ext.drew ?_ | refine Ext.drewN ?_ _ | refine Ext.setCell ?_ (by first | (simp; done) | (simp; omega) | omega) _ | refine Ext.trans ?_ (by assumption)))
    have hb2 : Boxed ((w1.alloc (.cells #[.slice none 0 0] 28)).alloc (.cells #[.bool false] 4)) (w1.heap.size + 1) [.bool false] := by
      have := Boxed.new (w1.alloc (.cells #[.slice none 0 0] 28)) [.bool false] 4
      rwa [World.size_alloc] at this
    have hz := hx.size
    have Hst : Hid (FoSt w.heap.size (w1.heap.size + 1) w1.heap.size n.sets.length n.links [] (fun k => k = w1.heap.size + 1 ∨ k = w1.heap.size) ((w1.alloc (.cells #[.slice none 0 0] 28)).alloc (.cells #[.bool false] 4))) :=
      Lib.hid ⟨fun _ => Iff.rfl, ⟨by omega, by omega, by omega⟩, by rw [B_false (show ¬ (([] : List (List Sp)) ≠ []) by simp)]; exact hb2, _, hb1, fun h0 => absurd rfl h0⟩
    have hxw : Ext w ((w1.alloc (.cells #[.slice none 0 0] 28)).alloc (.cells #[.bool false] 4)) := hx.trans hxa
    have Hxw := Lib.hid hxw
    clear hc hxa hb1 hb2 hxw
    go_wp2_with fail
    refine Calls.mono (impl_solutions (FoSt w.heap.size (w1.heap.size + 1) w1.heap.size n.sets.length n.links) w.heap.size 109 _ s k n _ _ (FoSt.cb _ _ _ _ _) Try.call109 (FirstSolution_1 _ _ _ n) (NetFit.of Hz.out.1) (H.out.1.ext Hxw.out (Nat.le_refl _)) (H.out.2.ext Hxw.out (Nat.le_refl _)) Hxw.out.size Hst.out) ?_
    rintro e w2 ⟨K', rfl, hst, hoff, -⟩
    have hx2 : Ext w w2 := Hxw.out.off hoff (fun k hk e => by omega)
    obtain ⟨-, -, h3, v, h4, h5⟩ := hst
    have fb := h3; have fb0 := fb.at0; have fbg := fb.1; have Hfb := Lib.hid fb; clear fb
    have bb := h4; have bb0 := bb.at0; have bbg := bb.1; have Hbb := Lib.hid bb; clear bb
    rw [← B_congr (sol_okCh n)] at fb0
    have Hx2 := Lib.hid hx2
    clear h3 h4 hoff hx2
    by_cases hs : Sol n
    · obtain ⟨g, m, a1, a2, a3, a4⟩ := h5 ((sol_okCh n).1 hs)
      have Hm := Lib.hid (firL_ok Hc.out a1)
      have He := Lib.hid (firE_ok Hc.out hs)
      have Ha2 := Lib.hid a2
      have Ha3 := Lib.hid a3
      have Ha4 := Lib.hid a4
      obtain ⟨Av, cv, rfl⟩ := a3.len
      rw [B_true hs] at fb0
      clear hs h5 a1 a2 a3 a4
      go_wp2_with fail
      go_ret2
      unfold NewInts2
      rw [Hm.out, He.out]
      exact ⟨_, g, rfl, Hx2.out, fun h0 => (Ha4.out (by have := Ha2.out; omega)).2.2, by rw [Ha2.out]; exact Ha3.out⟩
    · have Hm := Lib.hid (firL_none Hc.out hs)
      have He := Lib.hid (firE_none Hc.out hs)
      rw [B_false hs] at fb0
      clear hs h5
      go_wp2_with fail
      go_ret2
      rw [Hm.out, He.out]
      exact NewInts2.nil 4 Hx2.out
  · have Hc := Lib.hid hc
    have hd : (codeE n true != 0) = true := by simp [hc]
    clear hc
    go_wp2_with fail
    go_ret2
    rw [firL_no Hc.out, firE_no Hc.out]
    exact NewInts2.nil _ (by repeat (first | exact Ext.refl _ | assumption | refine Ext.alloc ?_ _ | refine Ext.drew ?_ | refine Ext.drewN ?_ _ | refine Ext.setCell ?_ (by first | (simp; done) | (simp; omega) | omega) _ | refine Ext.trans ?_ (by assumption)))
end Go.Proofs.Ytfajmlkiidnhlaa

/- Plain: what the first solution, a certain order and statements given up have to do with one another. -/
namespace Go.Proofs.Ytfajmlkiidnhlaa
set_option linter.unusedVariables false
set_option linter.unusedSimpArgs false

theorem codeE_ch (n : Net) : codeE n true = chE n := by
  by_cases h : NetOk n
  · by_cases h2 : choN 4096 n.sets ≤ 4096
    · rw [codeE_ok h h2, (ch_ok h h2).1]
    · rw [codeE_big h h2, (ch_big h h2).1]
  · rw [codeE_net h, (ch_bad h).1]
/-- a first solution solves -/
theorem first_sol {n : Net} (h : codeE n true = 0) (hs : Sol n) : firE n = 0 ∧ dayE n (firL n) = 0 ∧ solvB n (firL n) = true ∧ (firL n).length = n.sets.length ∧ Solves n (firL n) ∧ 0 < chV n := by
  obtain ⟨h1, _, h3⟩ := codeE_zero h
  obtain ⟨m, e, hl, hm⟩ := best_solves h1.2.2.2 hs
  rw [firL_ok h e, firE_ok h hs, (ch_ok h1 h3).2]
  refine ⟨rfl, day_ok h1 hl hm.1, solvB_ok h1 hl hm, hl, hm, ?_⟩
  have e2 : choN 4096 n.sets = (prodN n.sets : Int) := choN_small (few_of h3)
  rw [e2]
  obtain ⟨k, hk, _⟩ := (sol_num n).1 hs
  omega
/-- a certain order holds in every solution -/
theorem ord_days {n : Net} {a b : Int} (h : ordE n a b = 0) (ho : ordV n a b = true) {ds : List Int} (hl : ds.length = n.sets.length) (hs : Solves n ds) :
    0 ≤ a ∧ a < ds.length ∧ 0 ≤ b ∧ b < ds.length ∧ inAt ds a.toNat < inAt ds b.toNat := by
  obtain ⟨h1, h2, _⟩ := codeE_zero h
  obtain ⟨⟨a1, a2⟩, ⟨b1, b2⟩⟩ := vars2.1 (B_iff.1 h2)
  refine ⟨a1, by omega, b1, by omega, ?_⟩
  by_cases e : a = b
  · rw [ordV_same h e, B_true (sol_of_days hl hs)] at ho
    cases ho
  · rw [ordV_two h e] at ho
    have hno : ¬ Sol (ordN n a b) := fun hh => by rw [B_true hh] at ho; cases ho
    apply Classical.byContradiction
    intro hc
    refine hno (sol_of_days (n := ordN n a b) (ds := ds) hl ⟨hs.1, fun j hj => ?_⟩)
    have hj' : j < n.links.length + 1 := by
      have e2 : (ordN n a b).links.length = n.links.length + 1 := by unfold ordN; simp
      omega
    have e3 : lkAt (ordN n a b).links j = if j = n.links.length then ⟨b, a, 0, 730499⟩ else lkAt n.links j := lkAt_push n.links _ hj'
    rw [e3]
    by_cases e4 : j = n.links.length
    · rw [if_pos e4]
      obtain ⟨d1, d2⟩ := (h1.2.2.1 a.toNat (by omega)).d.day (hs.1 a.toNat (by omega))
      obtain ⟨d3, d4⟩ := (h1.2.2.1 b.toNat (by omega)).d.day (hs.1 b.toNat (by omega))
      unfold Holds
      show 0 ≤ inAt ds a.toNat - inAt ds b.toNat ∧ inAt ds a.toNat - inAt ds b.toNat ≤ 730499
      omega
    · rw [if_neg e4]
      exact hs.2 j (by omega)
/-- the law on certain orders -/
theorem ord_first {n : Net} {a b : Int} (h : ordE n a b = 0) (ho : ordV n a b = true) :
    firE n = 4 ∨ (firE n = 0 ∧ 0 ≤ a ∧ a < (firL n).length ∧ 0 ≤ b ∧ b < (firL n).length ∧ inAt (firL n) a.toNat < inAt (firL n) b.toNat) := by
  obtain ⟨h1, _, h3⟩ := codeE_zero h
  have hc := codeE_ok h1 h3
  by_cases hs : Sol n
  · obtain ⟨e1, _, _, e4, e5, _⟩ := first_sol hc hs
    exact .inr ⟨e1, ord_days h ho e4 e5⟩
  · exact .inl (firE_none hc hs)
/-- a repair, by the network in which its statements are given up -/
theorem rep_give {n : Net} {l : List Int} (h : blE n l = 0) : stmE n l = 0 ∧ codeE (gvV n l) true = 0 ∧ hasV (gvV n l) = isRepV n l := by
  have hs : stmE n l = 0 := by
    apply Classical.byContradiction
    intro hh
    rw [blE_no hh] at h
    exact hh h
  obtain ⟨h1, h2, h3⟩ := blE_zero h
  have hg := giveN_ok (is := fun i => HasI l i) h1
  have hf := blame_few (is := fun i => HasI l i) h3
  have hc : codeE (giveN (fun i => HasI l i) n) true = 0 := by
    refine codeE_ok hg ?_
    rw [choN_small (by omega)]
    omega
  rw [gvV_ok hs]
  exact ⟨hs, hc, by rw [hasV_ok hc, isRepV_ok h]; rfl⟩
end Go.Proofs.Ytfajmlkiidnhlaa
