/- Contracts: the program's solutions, isSolvable. -/
import Derived.Test.YtfmnkojjkjkdeaaGreatDoorQ3Ct
import Derived.Test.YtfmnkojjkjkdeaaGreatDoorQ3Bi
import Derived.Test.YtfmnkojjkjkdeaaGreatDoorQ3Nt
namespace Go.Proofs.YtfmnkojjkjkdeaaGreatDoor
set_option linter.unusedVariables false
set_option linter.unusedSimpArgs false
open Go.RowKit
attribute [local go_sem] cell_onto

/-- the network and the callback in boxes of their own, and what the callback carries: 'St' told of the choices that have solutions -/
def SoSt (b0 gN gC : Nat) (s k fv : Value) (ls : List Lk) (St : List (List Sp) → (Nat → Prop) → World → Prop) (l : List (List Sp)) (K : Nat → Prop) (w : World) : Prop :=
  St (okCh ls l) K w ∧ Boxed w gN [s, k] ∧ Boxed w gC [fv] ∧ (¬ K gN ∧ ¬ K gC) ∧ Links w 0 b0 k ls ∧ b0 ≤ w.heap.size
theorem SoSt.cb {b0 gN gC : Nat} {s k fv : Value} {ls : List Lk} {St : List (List Sp) → (Nat → Prop) → World → Prop} (hc : CbOk b0 St) : CbOk b0 (SoSt b0 gN gC s k fv ls St) :=
  ⟨fun h hx => ⟨hc.ext h.1 hx, h.2.1.ext hx, h.2.2.1.ext hx, h.2.2.2.1, h.2.2.2.2.1.ext hx h.2.2.2.2.2, Nat.le_trans h.2.2.2.2.2 hx.size⟩, fun h hk => hc.lt h.1 hk⟩
theorem SoSt.back {b0 gN gC : Nat} {s k fv : Value} {ls : List Lk} {St : List (List Sp) → (Nat → Prop) → World → Prop} {l : List (List Sp)} {c : List Sp} {K : Nat → Prop} {w w1 w2 : World} {e : Ending} (hc : CbOk b0 St)
    (h : SoSt b0 gN gC s k fv ls St l K w) (hok : ChOk ls c) (hx : Ext w w1) (hp : CbPost St (okCh ls l ++ [c]) K w1 e w2) : CbPost (SoSt b0 gN gC s k fv ls St) (l ++ [c]) K w e w2 := by
  obtain ⟨K', rfl, h1, h2, h3⟩ := hp
  obtain ⟨a1, a2, a3, ⟨a4, a4'⟩, a5, a6⟩ := h
  have hsz := hx.size
  have hlt : ∀ k, K k → b0 ≤ k := fun k hk => (hc.lt a1 hk).1
  have hn : ∀ g, g < w.heap.size → ¬ K g → ¬ K' g := fun g hg hk hk' => by
    rcases h3 g hk' with e | e
    · exact hk e
    · omega
  refine ⟨K', rfl, ⟨by rw [okCh_yes hok]; exact h1, (a2.ext hx).off h2 a4, (a3.ext hx).off h2 a4', ⟨hn _ a2.1 a4, hn _ a3.1 a4'⟩, (a5.ext hx a6).off h2 (fun k _ hk hh => by have := hlt k hh; omega) (by omega), by have := h2.size; omega⟩,
    (Off.of_ext hx).trans h2, fun k hk => (h3 k hk).elim .inl (fun h => .inr (by omega))⟩
theorem SoSt.none {b0 gN gC : Nat} {s k fv : Value} {ls : List Lk} {St : List (List Sp) → (Nat → Prop) → World → Prop} {l : List (List Sp)} {c : List Sp} {K : Nat → Prop} {w w1 : World} (hc : CbOk b0 St)
    (h : SoSt b0 gN gC s k fv ls St l K w) (hok : ¬ ChOk ls c) (hx : Ext w w1) : CbPost (SoSt b0 gN gC s k fv ls St) (l ++ [c]) K w (.returned (.tuple #[])) w1 := by
  refine CbPost.same ?_ hx
  have := (SoSt.cb hc).ext h hx
  exact ⟨by rw [okCh_no hok]; exact this.1, this.2⟩
/-- the promise of a callback that takes the least and the greatest solution of a choice -/
def SbCalls (b0 : Nat) (St : List (List Sp) → (Nat → Prop) → World → Prop) (g : Nat) (caps : Array Value) (n : Net) : Prop :=
  ∀ (l : List (List Sp)) (K : Nat → Prop) (c : List Sp) (v1 v2 : Value) (g1 g2 : Nat) (w : World), IsCh n.sets c → ChOk n.links c → l.length < (allCh n.sets []).length → St l K w →
    Own w g1 1 v1 c.length (intCell (lowV n.links c)) → Own w g2 1 v2 c.length (intCell (highV n.links c)) → (0 < c.length → b0 ≤ g1 ∧ b0 ≤ g2 ∧ g1 ≠ g2 ∧ ¬ K g1 ∧ ¬ K g2) →
    Calls Tryz.prog g (#[v1, v2] ++ caps) w (CbPost St (l ++ [c]) K w)
theorem SoSt.start {b0 : Nat} {s k fv : Value} {n : Net} {St : List (List Sp) → (Nat → Prop) → World → Prop} {K : Nat → Prop} {w : World} {T1 T2 : TypeId} (hc : CbOk b0 St) (hst : St [] K w) (h : Links w 0 b0 k n.links) (hb : b0 ≤ w.heap.size) :
    SoSt b0 w.heap.size (w.heap.size + 1) s k fv n.links St [] K ((w.alloc (.cells #[s, k] T1)).alloc (.cells #[fv] T2)) := by
  have hx : Ext w ((w.alloc (.cells #[s, k] T1)).alloc (.cells #[fv] T2)) := (by repeat (first | exact Ext.refl _ | assumption | refine Ext.alloc ?_ _ | refine Ext.drew ?_ | refine Ext.drewN ?_ _ | refine Ext.setCell ?_ (by first | (simp; done) | (simp; omega) | omega) _ | refine Ext.trans ?_ (by assumption)))
  have h1 : Boxed ((w.alloc (.cells #[s, k] T1)).alloc (.cells #[fv] T2)) w.heap.size [s, k] := (Boxed.new w [s, k] T1).ext (by repeat (first | exact Ext.refl _ | assumption | refine Ext.alloc ?_ _ | refine Ext.drew ?_ | refine Ext.drewN ?_ _ | refine Ext.setCell ?_ (by first | (simp; done) | (simp; omega) | omega) _ | refine Ext.trans ?_ (by assumption)))
  have h2 : Boxed ((w.alloc (.cells #[s, k] T1)).alloc (.cells #[fv] T2)) (w.heap.size + 1) [fv] := by
    have := Boxed.new (w.alloc (.cells #[s, k] T1)) [fv] T2
    rwa [World.size_alloc] at this
  have hk : ∀ g, w.heap.size ≤ g → ¬ K g := fun g hg hh => by have := (hc.lt hst hh).2; omega
  exact ⟨hc.ext hst hx, h1, h2, ⟨hk _ (Nat.le_refl _), hk _ (by omega)⟩, h.ext hx hb, by have := hx.size; omega⟩

set_option maxRecDepth 100000 in
set_option maxHeartbeats 2000000 in
theorem solutions_1 (St : List (List Sp) → (Nat → Prop) → World → Prop) (b0 gN gC g : Nat) (caps : Array Value) (s k : Value) (n : Net) (hcb : CbOk b0 St)
    (hg : ∀ (args : Array Value) (w : World), (callFunc g args).run Tryz.prog w = .ok (.enter g args) w) (hf : SbCalls b0 St g caps n) (hfit : NetFit n) :
    CbCalls (SoSt b0 gN gC s k (.func (.func g) #[] caps) n.links St) 262 #[.pointer (some ⟨gN, 0, none⟩), .pointer (some ⟨gC, 0, none⟩)] n := by
  intro l K c v w hch hlM hst hv
  obtain ⟨A, q, rfl, _, _⟩ := hv.len
  obtain ⟨Ak, qk, rfl, _, _⟩ := hst.2.2.2.2.1.len
  have HM : Hid ((okCh n.links l).length < (allCh n.sets []).length) := Lib.hid (Nat.lt_of_le_of_lt (List.length_filter_le _ _) hlM)
  have Hst := Lib.hid hst
  have Hv := Lib.hid hv
  have Hf := Lib.hid hf
  have Hch := Lib.hid hch
  have Hcb := Lib.hid hcb
  have Hfit := Lib.hid (hfit.ch hch)
  have h21 := hfit.k21
  have nb := Hst.out.2.1; have nb0 := nb.at0; have nb1 := nb.at1; have nbg := nb.1; have Hnb := Lib.hid nb; clear nb
  have kb := Hst.out.2.2.1; have kb0 := kb.at0; have kbg := kb.1; have Hkb := Lib.hid kb; clear kb
  clear hst hv hf hch hcb hfit hlM
  go_enter Tryz.func262, Tryz.ntmps262
  go_wp2_with fail
  refine Calls.mono (impl_bounds _ _ n.links c _ (Hst.out.2.2.2.2.1.mono (Nat.le_refl _) Hst.out.2.2.2.2.2) Hv.out Hfit.out.2.1 h21 Hfit.out.2.2.1 Hfit.out.2.2.2) ?_
  rintro e w1 ⟨v1, v2, rfl, hx1, hb1⟩
  by_cases hok : ChOk n.links c
  · have Hok := Lib.hid hok
    obtain ⟨g1, g2, hg1, ho1, ho2⟩ := hb1 hok
    have Hg := Lib.hid (show 0 < c.length → b0 ≤ g1 ∧ b0 ≤ g2 ∧ g1 ≠ g2 ∧ ¬ K g1 ∧ ¬ K g2 from fun h0 => by
      obtain ⟨a1, a2, a3⟩ := hg1 h0
      have hb := Hst.out.2.2.2.2.2
      exact ⟨by omega, by omega, a3, fun hh => by have := (Hcb.out.lt Hst.out.1 hh).2; omega, fun hh => by have := (Hcb.out.lt Hst.out.1 hh).2; omega⟩)
    have Ho1 := Lib.hid ho1
    have Ho2 := Lib.hid ho2
    have Hx1 := Lib.hid hx1
    have kb1 : w1.cell? ⟨gC, 0, none⟩ = some (.func (.func g) #[] caps) := (Hst.out.2.2.1.ext hx1).at0
    have hbt := B_true hok
    clear hok hb1 hg1 ho1 ho2 hx1 nb0 nb1 nbg Hnb kb0 kbg Hkb
    rw [hbt]
    go_wp2_with fail
    refine Calls.mono (Hf.out (okCh n.links l) K c v1 v2 g1 g2 w1 Hch.out Hok.out HM.out (Hcb.out.ext Hst.out.1 Hx1.out) Ho1.out Ho2.out Hg.out) ?_
    intro e w2 hp
    have Hp : Hid (CbPost (SoSt b0 gN gC s (.slice Ak n.links.length qk) (.func (.func g) #[] caps) n.links St) (l ++ [c]) K w e w2) := Lib.hid (SoSt.back Hcb.out Hst.out Hok.out Hx1.out hp)
    clear hp
    obtain rfl : e = .returned (.tuple #[]) := by obtain ⟨K', e, _⟩ := Hp.out; exact e
    go_wp2_with fail
    refine bodyPost_end (results_none rfl _ _ _) rfl ?_
    exact Hp.out
  · have Hp : Hid (CbPost (SoSt b0 gN gC s (.slice Ak n.links.length qk) (.func (.func g) #[] caps) n.links St) (l ++ [c]) K w (.returned (.tuple #[])) w1) := Lib.hid (SoSt.none Hcb.out Hst.out hok hx1)
    have hbf := B_false hok
    rw [hbf]
    clear hb1 hok
    go_wp2_with fail
    refine bodyPost_end (results_none rfl _ _ _) rfl ?_
    exact Hp.out

set_option maxRecDepth 100000 in
set_option maxHeartbeats 2000000 in
theorem impl_solutions (St : List (List Sp) → (Nat → Prop) → World → Prop) (b0 g : Nat) (caps : Array Value) (s k : Value) (n : Net) (K : Nat → Prop) (w : World) (hcb : CbOk b0 St)
    (hg : ∀ (args : Array Value) (w : World), (callFunc g args).run Tryz.prog w = .ok (.enter g args) w) (hf : SbCalls b0 St g caps n) (hfit : NetFit n)
    (h : Sets w 0 b0 s n.sets) (hk : Links w 0 b0 k n.links) (hb0 : b0 ≤ w.heap.size) (hst : St [] K w) :
    Calls Tryz.prog 195 #[.agg #[s, k], .func (.func g) #[] caps] w (CbPost St (okCh n.links (allCh n.sets [])) K w) := by
  have hs1 := SoSt.start (s := s) (fv := .func (.func g) #[] caps) (T1 := 27) (T2 := 230) hcb hst hk hb0
  have hx : Ext w ((w.alloc (.cells #[s, k] 27)).alloc (.cells #[.func (.func g) #[] caps] 230)) := (by repeat (first | exact Ext.refl _ | assumption | refine Ext.alloc ?_ _ | refine Ext.drew ?_ | refine Ext.drewN ?_ _ | refine Ext.setCell ?_ (by first | (simp; done) | (simp; omega) | omega) _ | refine Ext.trans ?_ (by assumption)))
  have Hx := Lib.hid hx
  have Hs1 := Lib.hid hs1
  have H := Lib.hid (h.ext hx hb0)
  have Hcb := Lib.hid hcb
  have Hf := Lib.hid (solutions_1 St b0 w.heap.size (w.heap.size + 1) g caps s k n hcb hg hf hfit)
  have hb1 : b0 ≤ ((w.alloc (.cells #[s, k] 27)).alloc (.cells #[.func (.func g) #[] caps] 230)).heap.size := by have := hx.size; omega
  have Hb1 := Lib.hid hb1
  have h8 := hfit.s8
  have hfit' := Lib.hid hfit.fit
  clear h hk hst hcb hf hs1 hx hb1 hfit
  go_enter Tryz.func195, Tryz.ntmps195
  go_wp2_with fail
  refine Calls.mono (impl_choices _ b0 262 _ s k n [] K _ (SoSt.cb Hcb.out) Tryz.call262 Hf.out h8 hfit'.out H.out Hb1.out Hs1.out rfl) ?_
  intro e w1 hp
  have Hp : Hid (CbPost St (okCh n.links (allCh n.sets [])) K w e w1) := Lib.hid (by
    obtain ⟨K', rfl, h1, h2, h3⟩ := hp
    exact ⟨K', rfl, h1.1, (Off.of_ext Hx.out).trans h2, fun k hk => (h3 k hk).elim .inl (fun h => .inr (by have := Hx.out.size; omega))⟩)
  clear hp
  obtain rfl : e = .returned (.tuple #[]) := by obtain ⟨K', e, _⟩ := Hp.out; exact e
  go_wp2_with fail
  refine bodyPost_end (results_none rfl _ _ _) rfl ?_
  exact Hp.out

/-- one box that tells whether there was a call -/
def IsSt (gF : Nat) (l : List (List Sp)) (K : Nat → Prop) (w : World) : Prop := (∀ k, K k ↔ k = gF) ∧ Boxed w gF [.bool (B (l ≠ []))]
theorem IsSt.cb (gF b0 : Nat) (h : b0 ≤ gF) : CbOk b0 (IsSt gF) :=
  ⟨fun hs hx => ⟨hs.1, hs.2.ext hx⟩, fun hs hk => by have e := (hs.1 _).1 hk; subst e; exact ⟨h, hs.2.1⟩⟩
set_option maxHeartbeats 400000 in
theorem isSolvable_1 (gF b0 : Nat) (n : Net) : SbCalls b0 (IsSt gF) 196 #[.pointer (some ⟨gF, 0, none⟩)] n := by
  intro l K c v1 v2 g1 g2 w hch hok _ hst ho1 ho2 hg
  obtain ⟨A1, q1, rfl⟩ := ho1.len
  obtain ⟨A2, q2, rfl⟩ := ho2.len
  have Hst := Lib.hid hst
  have fb := Hst.out.2; have fb0 := fb.at0; have fbg := fb.1; have Hfb := Lib.hid fb; clear fb
  have fz := Hst.out.2.fz 0 (by simp)
  clear hst ho1 ho2 hg hok hch
  go_enter Tryz.func196, Tryz.ntmps196
  go_wp2_with fail
  refine bodyPost_end (results_none rfl _ _ _) rfl ?_
  have e : B (l ++ [c] ≠ []) = true := B_true (by simp)
  refine ⟨K, rfl, ⟨Hst.out.1, ?_⟩, ?_, fun k hk => .inl hk⟩
  · rw [e]
    exact Hst.out.2.set 0 (.bool true) (by simp)
  · exact (Off.refl K w).setCell (.inl ((Hst.out.1 _).2 rfl)) _
set_option maxHeartbeats 1000000 in
theorem impl_isSolvable (s k : Value) (n : Net) (w : World) (h : NetIn w s k n) (hfit : NetFit n) : Calls Tryz.prog 126 #[.agg #[s, k]] w (RetX (.bool (B (Sol n))) w) := by
  have hx : Ext w ((w.alloc (.cells #[s, k] 27)).alloc (.cells #[.bool false] 4)) := (by repeat (first | exact Ext.refl _ | assumption | refine Ext.alloc ?_ _ | refine Ext.drew ?_ | refine Ext.drewN ?_ _ | refine Ext.setCell ?_ (by first | (simp; done) | (simp; omega) | omega) _ | refine Ext.trans ?_ (by assumption)))
  have hb2 : Boxed ((w.alloc (.cells #[s, k] 27)).alloc (.cells #[.bool false] 4)) (w.heap.size + 1) [.bool false] := by
    have := Boxed.new (w.alloc (.cells #[s, k] 27)) [.bool false] 4
    rwa [World.size_alloc] at this
  have Hx := Lib.hid hx
  have H := Lib.hid h
  have Hfit := Lib.hid hfit
  have Hst : Hid (IsSt (w.heap.size + 1) [] (fun k => k = w.heap.size + 1) ((w.alloc (.cells #[s, k] 27)).alloc (.cells #[.bool false] 4))) := Lib.hid ⟨fun _ => Iff.rfl, by rw [B_false (show ¬ (([] : List (List Sp)) ≠ []) by simp)]; exact hb2⟩
  clear h hfit hx hb2
  go_enter Tryz.func126, Tryz.ntmps126
  go_wp2_with fail
  refine Calls.mono (impl_solutions (IsSt (w.heap.size + 1)) w.heap.size 196 _ s k n _ _ (IsSt.cb _ _ (by omega)) Tryz.call196 (isSolvable_1 _ _ n) Hfit.out (H.out.1.ext Hx.out (Nat.le_refl _)) (H.out.2.ext Hx.out (Nat.le_refl _)) Hx.out.size Hst.out) ?_
  rintro e w1 ⟨K', rfl, hst, hoff, -⟩
  have hx1 : Ext w w1 := Hx.out.off hoff (fun k hk e => by omega)
  have fb := hst.2; have fb0 := fb.at0; have fbg := fb.1; have Hfb := Lib.hid fb; clear fb
  rw [← B_congr (sol_okCh n)] at fb0
  have Hx1 := Lib.hid hx1
  clear hst hoff hx1
  go_wp2_with fail
  go_ret
  exact ⟨rfl, Hx1.out⟩
end Go.Proofs.YtfmnkojjkjkdeaaGreatDoor
