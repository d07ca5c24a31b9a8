/- Texts merged: a claim holds at most sixty files. -/
import Derived.Test.YtfajmlkiidnhlaaZ33
import Derived.Test.YtfajmlkiidnhlaaZ24
import Derived.Test.YtfajmlkiidnhlaaZ03
/- Contract: l19Link. -/
namespace Go.Proofs.Ytfajmlkiidnhlaa
set_option linter.unusedVariables false
set_option linter.unusedSimpArgs false
open Go.RowKit
attribute [local go_sem] cell_onto
theorem NetD.small {n : Net} (h : NetD n) : Small n := ⟨by have := h.ns; omega, by have := h.nl; omega, fun i hi => by have := (h.sets i hi).len; omega⟩
theorem NetS.to {T : TypeId} {n : Net} {w w' : World} {a b : Nat} {s k : Value} (hx : Ext w w') (h : NetS T w' w.heap.size a b s k n) : NewNetL T n w (.returned (.agg #[s, k])) w' :=
  ⟨s, k, a, b, rfl, hx, h.la, h.ab, h.bw, h.sets, h.links, h.lk⟩
theorem NetS.off {S : Nat → Prop} {T : TypeId} {n : Net} {w w' : World} {lo a b : Nat} {s k : Value} (h : NetS T w lo a b s k n) (hx : Off S w w') (hs : ∀ x, S x → (x < a ∧ k.ownBlock ≠ some x) ∨ b ≤ x) : NetS T w' lo a b s k n :=
  ⟨h.la, h.ab, Nat.le_trans h.bw hx.size, h.sets.off hx (fun x h1 h2 hh => by rcases hs x hh with h3 | h3 <;> omega), ownsRow_off h.links hx (fun g hg hh => by
    rcases hs g hh with h3 | h3
    · exact h3.2 hg
    · have := h.lk g hg; have := h.ab; omega), h.lk⟩
set_option maxRecDepth 100000 in
set_option maxHeartbeats 16000000 in
theorem spec_l19Link (s k : Value) (n : Net) (l : Lk) (w : World) (h : NetIn w s k n) (hn : NetD n) (hl : LkOk l n.sets.length) :
    Calls Try.prog 149 #[.agg #[s, k], .agg #[.int .i64 l.be, .int .i64 l.af, .int .i64 l.le, .int .i64 l.mo]] w (NewNetL 60 (narL n l) w) := by
  obtain ⟨As, c0, rfl, hns0, hcs0⟩ := h.1.len
  obtain ⟨Ar, c1, rfl, hnk0, hck0⟩ := h.2.len
  have Hsm := Lib.hid hn.small
  have Hn1 := Lib.hid (nar1_ok hn hl)
  have Hl1 : Hid (LkOk l (nar1 n l).sets.length) := Lib.hid (by rw [Hn1.out.2.ns]; exact hl)
  have Hp := Lib.hid (LkOk.part hn hl)
  have Hp1 := Lib.hid (LkOk.part Hn1.out.1 Hl1.out)
  obtain ⟨⟨be1, be2⟩, ⟨af1, af2⟩, -⟩ := hl
  have H := Lib.hid h
  have hbN : l.be.toNat < n.sets.length := by omega
  have haN : l.af.toNat < n.sets.length := by omega
  have hbI : l.be < (n.sets.length : Int) := by omega
  have haI : l.af < (n.sets.length : Int) := by omega
  clear h hn
  obtain ⟨w0, hw0⟩ : ∃ x : World, x = (((w.alloc (.cells #[.slice As n.sets.length c0, .slice Ar n.links.length c1] 27)).alloc (.cells #[.int .i64 l.be, .int .i64 l.af, .int .i64 l.le, .int .i64 l.mo] 60)).alloc (.cells #[.slice none 0 0, .slice none 0 0] 27)) := ⟨_, rfl⟩
  have hz0 : w0.heap.size = w.heap.size + 1 + 1 + 1 := by rw [hw0]; simp
  have Hx0 : Hid (Ext w w0) := Lib.hid (by rw [hw0]; exact (by repeat (first | exact Ext.refl _ | assumption | refine Ext.alloc ?_ _ | refine Ext.drew ?_ | refine Ext.drewN ?_ _ | refine Ext.setCell ?_ (by first | (simp; done) | (simp; omega) | omega) _ | refine Ext.trans ?_ (by assumption))))
  have Hlb : Hid (Boxed w0 (w.heap.size + 1) [.int .i64 l.be, .int .i64 l.af, .int .i64 l.le, .int .i64 l.mo]) := Lib.hid (by
    have := (Boxed.new (w.alloc (.cells #[.slice As n.sets.length c0, .slice Ar n.links.length c1] 27)) [.int .i64 l.be, .int .i64 l.af, .int .i64 l.le, .int .i64 l.mo] 60).ext ((Ext.refl _).alloc (.cells #[.slice none 0 0, .slice none 0 0] 27))
    rw [World.size_alloc] at this
    rw [hw0]
    exact this)
  have Hrb : Hid (Boxed w0 (w.heap.size + 1 + 1) [.slice none 0 0, .slice none 0 0]) := Lib.hid (by
    have := Boxed.new ((w.alloc (.cells #[.slice As n.sets.length c0, .slice Ar n.links.length c1] 27)).alloc (.cells #[.int .i64 l.be, .int .i64 l.af, .int .i64 l.le, .int .i64 l.mo] 60)) [.slice none 0 0, .slice none 0 0] 27
    rw [World.size_alloc, World.size_alloc] at this
    rw [hw0]
    exact this)
  have Hw0 := Lib.hid hw0
  clear hw0
  go_enter Try.func149, Try.ntmps149
  go_wp2_with fail
  rw [← Hw0.out]
  refine Calls.mono (spec_l18Own _ _ n _ (H.out.up Hx0.out) Hsm.out) ?_
  rintro e w3 hnew
  obtain ⟨so, ko, a, b, rfl, hx3, hS3⟩ := NetS.of hnew
  obtain ⟨Ao, cs, rfl, hns, hcs⟩ := hS3.netIn.1.len
  obtain ⟨Ak, ck, rfl, hnk, hck⟩ := hS3.netIn.2.len
  obtain ⟨g0, off, za, rfl, ga, gb, c1', z1'⟩ := hS3.cell haN
  have hla := hS3.la
  have hbw := hS3.bw
  have hz3 := hx3.size
  have hx4 : Ext w3 (w3.alloc (.cells #[.slice (some ⟨g0, off, none⟩) n.sets.length cs, .slice Ak n.links.length ck] 27)) := (by repeat (first | exact Ext.refl _ | assumption | refine Ext.alloc ?_ _ | refine Ext.drew ?_ | refine Ext.drewN ?_ _ | refine Ext.setCell ?_ (by first | (simp; done) | (simp; omega) | omega) _ | refine Ext.trans ?_ (by assumption)))
  have HS := Lib.hid (hS3.ext hx4)
  have Hlb4 := Lib.hid ((Hlb.out.ext hx3).ext hx4)
  have Hrb4 := Lib.hid ((Hrb.out.ext hx3).ext hx4)
  have Hxw := Lib.hid ((Hx0.out.trans hx3).trans hx4)
  have Hob := Lib.hid (Boxed.new w3 [.slice (some ⟨g0, off, none⟩) n.sets.length cs, .slice Ak n.links.length ck] 27)
  have q1 := (hx4.cell (p := ⟨g0, off + l.af.toNat, none⟩) (by show g0 < _; omega)).trans c1'
  have q2 := (hx4.frozen (p := ⟨g0, off + l.af.toNat, none⟩) (by show g0 < _; omega)).trans z1'
  have hz4 : (w3.alloc (.cells #[.slice (some ⟨g0, off, none⟩) n.sets.length cs, .slice Ak n.links.length ck] 27)).heap.size = w3.heap.size + 1 := by simp
  obtain ⟨w4, hw4⟩ : ∃ x : World, x = w3.alloc (.cells #[.slice (some ⟨g0, off, none⟩) n.sets.length cs, .slice Ak n.links.length ck] 27) := ⟨_, rfl⟩
  rw [← hw4] at HS Hlb4 Hrb4 Hxw Hob q1 q2 hz4
  clear hx4 c1' z1' hS3 Hlb Hrb hx3 hnew
  go_wp2_with fail
  rw [← hw4]
  clear hw4 Hw0
  have nb := Hob.out; have nb0 := nb.at0; have nb1 := nb.at1; have nbg := nb.1; have Hnb := Lib.hid nb; clear nb
  have lb := Hlb4.out; have lb0 := lb.at0; have lb1 := lb.at1; have lb2 := lb.at2; have lb3 := lb.at3; have lbg := lb.1; have Hlb := Lib.hid lb; clear lb
  have hg0 : g0 < w4.heap.size := by omega
  have hnn : ¬ (fun x => x = g0) w3.heap.size := by show ¬ (_ = g0); omega
  have hnl : ¬ (fun x => x = g0) (w.heap.size + 1) := by show ¬ (_ = g0); omega
  go_region_held3 (fun w' => w'.cell? ⟨w3.heap.size, 0, none⟩ = some (.slice (some ⟨g0, off, none⟩) n.sets.length cs) ∧ w'.cell? ⟨w3.heap.size, 1, none⟩ = some (.slice Ak n.links.length ck) ∧ w'.cell? ⟨w.heap.size + 1, 0, none⟩ = some (.int .i64 l.be) ∧ w'.cell? ⟨w.heap.size + 1, 1, none⟩ = some (.int .i64 l.af) ∧ w'.cell? ⟨w.heap.size + 1, 2, none⟩ = some (.int .i64 l.le) ∧ w'.cell? ⟨w.heap.size + 1, 3, none⟩ = some (.int .i64 l.mo) ∧ Off (fun x => x = g0) w4 w')
    ((refine Off.box24 (S := fun x => x = g0) ?_ nbg hnn nb0 nb1 lbg hnl lb0 lb1 lb2 lb3; first | exact Off.put_ hxp0 | (refine Off.of_ext ?_; exact (by repeat (first | exact Ext.refl _ | assumption | refine Ext.alloc ?_ _ | refine Ext.drew ?_ | refine Ext.drewN ?_ _ | refine Ext.setCell ?_ (by first | (simp; done) | (simp; omega) | omega) _ | refine Ext.trans ?_ (by assumption))))))
    ((first
      | (go_at_call 145; refine Calls.mono (spec_l19Partner _ _ n l true _ (HS.out.netIn.up (by repeat (first | exact Ext.refl _ | assumption | refine Ext.alloc ?_ _ | refine Ext.drew ?_ | refine Ext.drewN ?_ _ | refine Ext.setCell ?_ (by first | (simp; done) | (simp; omega) | omega) _ | refine Ext.trans ?_ (by assumption)))) Hp.out) ?_; rintro e wp ⟨vp, rfl, hxwp, hrwp⟩; obtain ⟨Ap, cp, rfl⟩ := ownsRow_len hrwp; have hxp0 : Ext w4 wp := (by repeat (first | exact Ext.refl _ | assumption | refine Ext.alloc ?_ _ | refine Ext.drew ?_ | refine Ext.drewN ?_ _ | refine Ext.setCell ?_ (by first | (simp; done) | (simp; omega) | omega) _ | refine Ext.trans ?_ (by assumption))); have q3 := (hxp0.cell (p := ⟨g0, off + l.af.toNat, none⟩) hg0).trans q1; have q4 := (hxp0.frozen (p := ⟨g0, off + l.af.toNat, none⟩) hg0).trans q2)))
  obtain ⟨w5, hw5⟩ : ∃ x : World, x = wp.setCell ⟨g0, off + l.af.toNat, none⟩ (.slice Ap (partN n l true).length cp) := ⟨_, rfl⟩
  have hO5 : Off (fun x => x = g0) w4 w5 := by rw [hw5]; exact Off.put_ hxp0
  have hS5 : NetS 60 w5 w0.heap.size a wp.heap.size (.slice (some ⟨g0, off, none⟩) n.sets.length cs) (.slice Ak n.links.length ck) (nar1 n l) := by
    obtain ⟨g1, off1, e1, _, _, hS2⟩ := HS.out.put rfl haN hxp0 hrwp
    injection e1 with e1
    injection e1 with e2 e3
    subst e2 e3
    rw [hw5]
    exact hS2
  rw [← hw5]
  have hnl1 : (nar1 n l).sets.length = n.sets.length := Hn1.out.2.ns
  obtain ⟨g1, off1, zb, e1, _, _, c3, z3⟩ := hS5.cell (v := l.be.toNat) (by rw [hnl1]; exact hbN)
  injection e1 with e1
  injection e1 with e2 e3
  subst e2 e3
  have hz5 := hO5.size
  have HS5 := Lib.hid hS5
  have HO5 := Lib.hid hO5
  obtain ⟨mb0, mb1, kb0, kb1, kb2, kb3, -⟩ := Off.box24 hO5 nbg hnn nb0 nb1 lbg hnl lb0 lb1 lb2 lb3
  have mbg : w3.heap.size < w5.heap.size := by omega
  have kbg : w.heap.size + 1 < w5.heap.size := by omega
  have hg5 : g0 < w5.heap.size := by omega
  clear hw5 hS5 hO5 q1 q2 q3 q4 hxwp hxp0 hrwp nb0 nb1 nbg lb0 lb1 lb2 lb3 lbg
  go_wp2_with fail
  go_region_held3 (fun w' => w'.cell? ⟨w3.heap.size, 0, none⟩ = some (.slice (some ⟨g0, off, none⟩) n.sets.length cs) ∧ w'.cell? ⟨w3.heap.size, 1, none⟩ = some (.slice Ak n.links.length ck) ∧ w'.cell? ⟨w.heap.size + 1, 0, none⟩ = some (.int .i64 l.be) ∧ w'.cell? ⟨w.heap.size + 1, 1, none⟩ = some (.int .i64 l.af) ∧ w'.cell? ⟨w.heap.size + 1, 2, none⟩ = some (.int .i64 l.le) ∧ w'.cell? ⟨w.heap.size + 1, 3, none⟩ = some (.int .i64 l.mo) ∧ Off (fun x => x = g0) w5 w')
    ((refine Off.box24 (S := fun x => x = g0) ?_ mbg hnn mb0 mb1 kbg hnl kb0 kb1 kb2 kb3; first | exact Off.put_ hxq0 | (refine Off.of_ext ?_; exact (by repeat (first | exact Ext.refl _ | assumption | refine Ext.alloc ?_ _ | refine Ext.drew ?_ | refine Ext.drewN ?_ _ | refine Ext.setCell ?_ (by first | (simp; done) | (simp; omega) | omega) _ | refine Ext.trans ?_ (by assumption))))))
    ((first
      | (go_at_call 145; refine Calls.mono (spec_l19Partner _ _ (nar1 n l) l false _ (HS5.out.netIn.up (by repeat (first | exact Ext.refl _ | assumption | refine Ext.alloc ?_ _ | refine Ext.drew ?_ | refine Ext.drewN ?_ _ | refine Ext.setCell ?_ (by first | (simp; done) | (simp; omega) | omega) _ | refine Ext.trans ?_ (by assumption)))) Hp1.out) ?_; rintro e wq ⟨vq, rfl, hxwq, hrwq⟩; obtain ⟨Aq, cq, rfl⟩ := ownsRow_len hrwq; have hxq0 : Ext w5 wq := (by repeat (first | exact Ext.refl _ | assumption | refine Ext.alloc ?_ _ | refine Ext.drew ?_ | refine Ext.drewN ?_ _ | refine Ext.setCell ?_ (by first | (simp; done) | (simp; omega) | omega) _ | refine Ext.trans ?_ (by assumption))); have q3 := (hxq0.cell (p := ⟨g0, off + l.be.toNat, none⟩) hg5).trans c3; have q4 := (hxq0.frozen (p := ⟨g0, off + l.be.toNat, none⟩) hg5).trans z3)))
  obtain ⟨w6, hw6⟩ : ∃ x : World, x = wq.setCell ⟨g0, off + l.be.toNat, none⟩ (.slice Aq (partN (nar1 n l) l false).length cq) := ⟨_, rfl⟩
  have hO6 : Off (fun x => x = g0) w5 w6 := by rw [hw6]; exact Off.put_ hxq0
  have hS6 : NetS 60 w6 w0.heap.size a w6.heap.size (.slice (some ⟨g0, off, none⟩) n.sets.length cs) (.slice Ak n.links.length ck) (narL n l) := by
    obtain ⟨g1, off1, e1, _, _, hS4⟩ := HS5.out.put hnl1.symm (v := l.be.toNat) (by rw [hnl1]; exact hbN) hxq0 hrwq
    injection e1 with e1
    injection e1 with e2 e3
    subst e2 e3
    rw [hw6]
    have e : (wq.setCell ⟨g0, off + l.be.toNat, none⟩ (.slice Aq (partN (nar1 n l) l false).length cq)).heap.size = wq.heap.size := by simp [World.setCell]
    rw [e]
    exact hS4
  rw [← hw6]
  have hO46 := HO5.out.trans hO6
  have hz6 := hO46.size
  have hrb6 := Hrb4.out.off hO46 (fun hh => by omega)
  have hob6 := Hob.out.off hO46 (fun hh => by omega)
  have hx6 := Hxw.out.off hO46 (fun k hk hh => by omega)
  have HS6 := Lib.hid hS6
  clear hw6 hS6 hO6 q3 q4 hxwq hxq0 hrwq mb0 mb1 mbg kb0 kb1 kb2 kb3 kbg c3 z3
  have xb := hob6; have xb0 := xb.at0; have xb1 := xb.at1; have xbg := xb.1; have Hxb := Lib.hid xb; clear xb
  have rb := hrb6; have rb0 := rb.at0; have rb1 := rb.at1; have rbg := rb.1; have Hrb := Lib.hid rb; clear rb
  have rf0 := Hrb.out.fz 0 (by simp)
  have rf1 := Hrb.out.fz 1 (by simp)
  clear hob6 hrb6
  go_wp2_with fail
  refine bodyPost_ret (v := .agg #[.slice (some ⟨g0, off, none⟩) n.sets.length cs, .slice Ak n.links.length ck]) (by simp [results, Try.results149, go_sem, *]) rfl ?_
  have hO : Off (fun k => k = w.heap.size + 1 + 1) w6 ((w6.setCell ⟨w.heap.size + 1 + 1, 0, none⟩ (.slice (some ⟨g0, off, none⟩) n.sets.length cs)).setCell ⟨w.heap.size + 1 + 1, 1, none⟩ (.slice Ak n.links.length ck)) :=
    Off.setCell (S := fun k => k = w.heap.size + 1 + 1) (p := ⟨w.heap.size + 1 + 1, 1, none⟩) (Off.setCell (S := fun k => k = w.heap.size + 1 + 1) (p := ⟨w.heap.size + 1 + 1, 0, none⟩) (Off.refl _ _) (.inl rfl) _) (.inl rfl) _
  refine NetS.to (hx6.off hO (fun k hk hh => by omega)) ((HS6.out.mono (by omega)).off hO (fun x hx => .inl ⟨by omega, fun hh => ?_⟩))
  have := (HS6.out.links.lt _ hh).1
  omega
end Go.Proofs.Ytfajmlkiidnhlaa

/- Contracts: limitedNetwork, l19Result; the rounds of narrowing. -/
namespace Go.Proofs.Ytfajmlkiidnhlaa
set_option linter.unusedVariables false
set_option linter.unusedSimpArgs false
open Go.RowKit
attribute [local go_sem] cell_onto

theorem lim_iff {n : Net} : ¬ Some_ n.sets.length (fun i => ¬ (setAt n.sets i).length ≤ 300) ↔ Lim n := by
  unfold Some_ Lim
  constructor
  · intro h i hi
    exact Classical.byContradiction fun hn => h ⟨i, hi, hn⟩
  · rintro h ⟨i, hi, hn⟩
    exact hn (h i hi)
theorem OwnSets.wide {w : World} {lo b b' : Nat} {s : Value} {l : List (List Sp)} (h : OwnSets w lo b s l) (hb : b ≤ b') : OwnSets w lo b' s l := by
  obtain ⟨g0, f, g, h1, h2, h3, h4⟩ := h
  exact ⟨g0, f, g, h1, fun h0 => ⟨(h2 h0).1, by have := (h2 h0).2; omega⟩, fun i hi => ⟨(h3 i hi).1, fun h0 => ⟨((h3 i hi).2 h0).1, by have := ((h3 i hi).2 h0).2.1; omega, ((h3 i hi).2 h0).2.2⟩⟩, h4⟩
set_option maxHeartbeats 400000 in
theorem impl_limitedNetwork_1 (v : Value) (l : List Sp) (w : World) (h : Spans w 0 w.heap.size v l) : Calls Try.prog 202 #[v] w (RetX (.bool (B (¬ l.length ≤ 300))) w) := by
  obtain ⟨A, c, rfl, hn, hc⟩ := h.len
  clear h
  go_enter Try.func202, Try.ntmps202
  go_wp2_with fail
  go_ret
  refine ⟨ret_bool (B_eq ?_), (by repeat (first | exact Ext.refl _ | assumption | refine Ext.alloc ?_ _ | refine Ext.drew ?_ | refine Ext.drewN ?_ _ | refine Ext.setCell ?_ (by first | (simp; done) | (simp; omega) | omega) _ | refine Ext.trans ?_ (by assumption)))⟩
  simp only [decide_eq_true_eq]
  omega
set_option maxHeartbeats 1000000 in
theorem impl_limitedNetwork_yes (s k : Value) (n : Net) (w : World) (h : NetIn w s k n) (hl : Lim n) : Calls Try.prog 147 #[.agg #[s, k]] w (RetX (.tuple #[.agg #[s, k], .int .i64 0]) w) := by
  obtain ⟨As, c0, rfl, hns0, hcs0⟩ := h.1.len
  obtain ⟨Ar, c1, rfl, hnk0, hck0⟩ := h.2.len
  have Hc := Lib.hid (fun (w1 : World) (h1 : Sets w1 0 w1.heap.size (.slice As n.sets.length c0) n.sets) => containsFunc_sets (.slice As n.sets.length c0) n.sets 202 #[] (fun i => ¬ (setAt n.sets i).length ≤ 300) w1 h1 Try.call202 (fun i w' u hu _ hx => impl_limitedNetwork_1 u (setAt n.sets i) w' (hu.mono (Nat.le_refl _) hx.size)))
  have Hb := Lib.hid (B_false (fun hh => lim_iff.2 hl hh))
  have H := Lib.hid h
  clear h hl
  go_enter Try.func147, Try.ntmps147
  go_wp2_with fail
  have nb := (Boxed.new w [.slice As n.sets.length c0, .slice Ar n.links.length c1] 27).ext ((Ext.refl _).alloc (.cells #[.slice none 0 0, .slice none 0 0] 27)); have nb0 := nb.at0; have nb1 := nb.at1; have nbg := nb.1; have Hnb := Lib.hid nb; clear nb
  refine Calls.mono (Hc.out _ (H.out.up (by repeat (first | exact Ext.refl _ | assumption | refine Ext.alloc ?_ _ | refine Ext.drew ?_ | refine Ext.drewN ?_ _ | refine Ext.setCell ?_ (by first | (simp; done) | (simp; omega) | omega) _ | refine Ext.trans ?_ (by assumption)))).1) ?_
  rintro e w1 ⟨rfl, hx1⟩
  have hx : Ext w w1 := (by repeat (first | exact Ext.refl _ | assumption | refine Ext.alloc ?_ _ | refine Ext.drew ?_ | refine Ext.drewN ?_ _ | refine Ext.setCell ?_ (by first | (simp; done) | (simp; omega) | omega) _ | refine Ext.trans ?_ (by assumption)))
  rw [Hb.out]
  have hn1 := Hnb.out.ext hx1
  have hr1 : Boxed w1 (w.heap.size + 1) [.slice none 0 0, .slice none 0 0] := by
    have := (Boxed.new (w.alloc (.cells #[.slice As n.sets.length c0, .slice Ar n.links.length c1] 27)) [.slice none 0 0, .slice none 0 0] 27).ext hx1
    rwa [World.size_alloc] at this
  clear nb0 nb1 nbg Hnb
  have nb := hn1; have nb0 := nb.at0; have nb1 := nb.at1; have nbg := nb.1; have Hnb := Lib.hid nb; clear nb
  have rb := hr1; have rb0 := rb.at0; have rb1 := rb.at1; have rbg := rb.1; have Hrb := Lib.hid rb; clear rb
  have rf0 := hr1.fz 0 (by simp)
  have rf1 := hr1.fz 1 (by simp)
  clear hn1 hr1 hx1
  go_wp2_with fail
  refine bodyPost_ret (v := .tuple #[.agg #[.slice As n.sets.length c0, .slice Ar n.links.length c1], .int .i64 0]) (by simp [results, Try.results147, go_sem, *]) rfl ?_
  exact ⟨rfl, (by repeat (first | exact Ext.refl _ | assumption | refine Ext.alloc ?_ _ | refine Ext.drew ?_ | refine Ext.drewN ?_ _ | refine Ext.setCell ?_ (by first | (simp; done) | (simp; omega) | omega) _ | refine Ext.trans ?_ (by assumption)))⟩
set_option maxHeartbeats 1000000 in
theorem impl_limitedNetwork_no (s k : Value) (n : Net) (w : World) (h : NetIn w s k n) (hl : ¬ Lim n) : Calls Try.prog 147 #[.agg #[s, k]] w (RetX (.tuple #[.agg #[.slice none 0 0, .slice none 0 0], .int .i64 3]) w) := by
  have Hc := Lib.hid (fun (w1 : World) (h1 : Sets w1 0 w1.heap.size s n.sets) => containsFunc_sets s n.sets 202 #[] (fun i => ¬ (setAt n.sets i).length ≤ 300) w1 h1 Try.call202 (fun i w' u hu _ hx => impl_limitedNetwork_1 u (setAt n.sets i) w' (hu.mono (Nat.le_refl _) hx.size)))
  have Hb := Lib.hid (B_true (show Some_ n.sets.length (fun i => ¬ (setAt n.sets i).length ≤ 300) from Classical.byContradiction fun hn => hl (lim_iff.1 hn)))
  have H := Lib.hid h
  clear h hl
  go_enter Try.func147, Try.ntmps147
  go_wp2_with fail
  have nb := (Boxed.new w [s, k] 27).ext ((Ext.refl _).alloc (.cells #[.slice none 0 0, .slice none 0 0] 27)); have nb0 := nb.at0; have nb1 := nb.at1; have nbg := nb.1; have Hnb := Lib.hid nb; clear nb
  refine Calls.mono (Hc.out _ (H.out.up (by repeat (first | exact Ext.refl _ | assumption | refine Ext.alloc ?_ _ | refine Ext.drew ?_ | refine Ext.drewN ?_ _ | refine Ext.setCell ?_ (by first | (simp; done) | (simp; omega) | omega) _ | refine Ext.trans ?_ (by assumption)))).1) ?_
  rintro e w1 ⟨rfl, hx1⟩
  have hx : Ext w w1 := (by repeat (first | exact Ext.refl _ | assumption | refine Ext.alloc ?_ _ | refine Ext.drew ?_ | refine Ext.drewN ?_ _ | refine Ext.setCell ?_ (by first | (simp; done) | (simp; omega) | omega) _ | refine Ext.trans ?_ (by assumption)))
  rw [Hb.out]
  have hr1 : Boxed w1 (w.heap.size + 1) [.slice none 0 0, .slice none 0 0] := by
    have := (Boxed.new (w.alloc (.cells #[s, k] 27)) [.slice none 0 0, .slice none 0 0] 27).ext hx1
    rwa [World.size_alloc] at this
  clear nb0 nb1 nbg Hnb
  have rb := hr1; have rb0 := rb.at0; have rb1 := rb.at1; have rbg := rb.1; have Hrb := Lib.hid rb; clear rb
  have rf0 := hr1.fz 0 (by simp)
  have rf1 := hr1.fz 1 (by simp)
  clear hr1 hx1
  go_wp2_with fail
  refine bodyPost_ret (v := .tuple #[.agg #[.slice none 0 0, .slice none 0 0], .int .i64 3]) (by simp [results, Try.results147, go_sem, *]) rfl ?_
  exact ⟨rfl, (by repeat (first | exact Ext.refl _ | assumption | refine Ext.alloc ?_ _ | refine Ext.drew ?_ | refine Ext.drewN ?_ _ | refine Ext.setCell ?_ (by first | (simp; done) | (simp; omega) | omega) _ | refine Ext.trans ?_ (by assumption)))⟩
set_option maxHeartbeats 1000000 in
theorem spec_l19Result_yes (s k : Value) (n : Net) (w : World) (h : NetIn w s k n) (hd : NetD n) (hl : Lim n) : Calls Try.prog 148 #[.agg #[s, k]] w (RetX (.tuple #[.agg #[s, k], .int .i64 0]) w) := by
  obtain ⟨As, c0, rfl, hns0, hcs0⟩ := h.1.len
  obtain ⟨Ar, c1, rfl, hnk0, hck0⟩ := h.2.len
  have Hb := Lib.hid (B_true ((netOk_iff hd).2 hl))
  have H := Lib.hid h
  clear h hl hd
  go_enter Try.func148, Try.ntmps148
  go_wp2_with fail
  have nb := (Boxed.new w [.slice As n.sets.length c0, .slice Ar n.links.length c1] 27).ext ((Ext.refl _).alloc (.cells #[.slice none 0 0, .slice none 0 0] 27)); have nb0 := nb.at0; have nb1 := nb.at1; have nbg := nb.1; have Hnb := Lib.hid nb; clear nb
  refine Calls.mono (spec_IsNetwork _ _ n _ (H.out.up (by repeat (first | exact Ext.refl _ | assumption | refine Ext.alloc ?_ _ | refine Ext.drew ?_ | refine Ext.drewN ?_ _ | refine Ext.setCell ?_ (by first | (simp; done) | (simp; omega) | omega) _ | refine Ext.trans ?_ (by assumption))))) ?_
  rintro e w1 ⟨rfl, hx1⟩
  have hx : Ext w w1 := (by repeat (first | exact Ext.refl _ | assumption | refine Ext.alloc ?_ _ | refine Ext.drew ?_ | refine Ext.drewN ?_ _ | refine Ext.setCell ?_ (by first | (simp; done) | (simp; omega) | omega) _ | refine Ext.trans ?_ (by assumption)))
  rw [Hb.out]
  have hn1 := Hnb.out.ext hx1
  have hr1 : Boxed w1 (w.heap.size + 1) [.slice none 0 0, .slice none 0 0] := by
    have := (Boxed.new (w.alloc (.cells #[.slice As n.sets.length c0, .slice Ar n.links.length c1] 27)) [.slice none 0 0, .slice none 0 0] 27).ext hx1
    rwa [World.size_alloc] at this
  clear nb0 nb1 nbg Hnb
  have nb := hn1; have nb0 := nb.at0; have nb1 := nb.at1; have nbg := nb.1; have Hnb := Lib.hid nb; clear nb
  have rb := hr1; have rb0 := rb.at0; have rb1 := rb.at1; have rbg := rb.1; have Hrb := Lib.hid rb; clear rb
  have rf0 := hr1.fz 0 (by simp)
  have rf1 := hr1.fz 1 (by simp)
  clear hn1 hr1 hx1
  go_wp2_with fail
  refine bodyPost_ret (v := .tuple #[.agg #[.slice As n.sets.length c0, .slice Ar n.links.length c1], .int .i64 0]) (by simp [results, Try.results148, go_sem, *]) rfl ?_
  exact ⟨rfl, (by repeat (first | exact Ext.refl _ | assumption | refine Ext.alloc ?_ _ | refine Ext.drew ?_ | refine Ext.drewN ?_ _ | refine Ext.setCell ?_ (by first | (simp; done) | (simp; omega) | omega) _ | refine Ext.trans ?_ (by assumption)))⟩
set_option maxHeartbeats 1000000 in
theorem spec_l19Result_no (s k : Value) (n : Net) (w : World) (h : NetIn w s k n) (hd : NetD n) (hl : ¬ Lim n) : Calls Try.prog 148 #[.agg #[s, k]] w (RetX (.tuple #[.agg #[.slice none 0 0, .slice none 0 0], .int .i64 3]) w) := by
  have Hb := Lib.hid (B_false (fun hh => hl ((netOk_iff hd).1 hh)))
  have H := Lib.hid h
  clear h hl hd
  go_enter Try.func148, Try.ntmps148
  go_wp2_with fail
  refine Calls.mono (spec_IsNetwork s k n _ (H.out.up (by repeat (first | exact Ext.refl _ | assumption | refine Ext.alloc ?_ _ | refine Ext.drew ?_ | refine Ext.drewN ?_ _ | refine Ext.setCell ?_ (by first | (simp; done) | (simp; omega) | omega) _ | refine Ext.trans ?_ (by assumption))))) ?_
  rintro e w1 ⟨rfl, hx1⟩
  have hx : Ext w w1 := (by repeat (first | exact Ext.refl _ | assumption | refine Ext.alloc ?_ _ | refine Ext.drew ?_ | refine Ext.drewN ?_ _ | refine Ext.setCell ?_ (by first | (simp; done) | (simp; omega) | omega) _ | refine Ext.trans ?_ (by assumption)))
  rw [Hb.out]
  have hr1 : Boxed w1 (w.heap.size + 1) [.slice none 0 0, .slice none 0 0] := by
    have := (Boxed.new (w.alloc (.cells #[s, k] 27)) [.slice none 0 0, .slice none 0 0] 27).ext hx1
    rwa [World.size_alloc] at this
  have rb := hr1; have rb0 := rb.at0; have rb1 := rb.at1; have rbg := rb.1; have Hrb := Lib.hid rb; clear rb
  have rf0 := hr1.fz 0 (by simp)
  have rf1 := hr1.fz 1 (by simp)
  clear hr1 hx1
  go_wp2_with fail
  refine bodyPost_ret (v := .tuple #[.agg #[.slice none 0 0, .slice none 0 0], .int .i64 3]) (by simp [results, Try.results148, go_sem, *]) rfl ?_
  exact ⟨rfl, (by repeat (first | exact Ext.refl _ | assumption | refine Ext.alloc ?_ _ | refine Ext.drew ?_ | refine Ext.drewN ?_ _ | refine Ext.setCell ?_ (by first | (simp; done) | (simp; omega) | omega) _ | refine Ext.trans ?_ (by assumption)))⟩
set_option maxRecDepth 100000 in
set_option maxHeartbeats 4000000 in
theorem impl_narrowRound (s k : Value) (n : Net) (lo a b : Nat) (w : World) (h : NetS 60 w lo a b s k n) (hn : NetD n) :
    Calls Try.prog 151 #[.agg #[s, k]] w (fun e w' => e = .returned (.tuple #[]) ∧ Off (fun x => a ≤ x ∧ x < b) w w' ∧ NetS 60 w' lo a w'.heap.size s k (narR n)) := by
  obtain ⟨As, cs, rfl, hns, hcs⟩ := h.netIn.1.len
  obtain ⟨Ak, ck, rfl, hnk, hck⟩ := h.netIn.2.len
  have Hsb := Lib.hid (fun (h0 : 0 < n.sets.length) (x : Nat) (hh : (Value.slice As n.sets.length cs).ownBlock = some x) => show a ≤ x ∧ x < b by
    obtain ⟨g0, off, z, rfl, h1, h2, _⟩ := h.cell h0
    have hg : g0 = x := by injection hh
    omega)
  have H := Lib.hid h
  have Hd := Lib.hid hn
  have h20 := hn.nl
  clear h hn
  go_enter Try.func151, Try.ntmps151
  go_wp2_with fail
  go_loopg [7] n.links.length (fun q i wr => ∃ (j b1 : Nat), j + q = n.links.length ∧ i = .int .i64 j ∧ Hid (Off (fun x => a ≤ x ∧ x < b) w wr) ∧ Boxed wr w.heap.size [.slice As n.sets.length cs, .slice Ak n.links.length ck] ∧ Hid (NetS 60 wr lo a b1 (.slice As n.sets.length cs) (.slice Ak n.links.length ck) (narTo n n.links j)))
  case atStart => exact ⟨0, b, by omega, rfl, Lib.hid (Off.of_ext (by repeat (first | exact Ext.refl _ | assumption | refine Ext.alloc ?_ _ | refine Ext.drew ?_ | refine Ext.drewN ?_ _ | refine Ext.setCell ?_ (by first | (simp; done) | (simp; omega) | omega) _ | refine Ext.trans ?_ (by assumption)))), Boxed.new w _ _, Lib.hid (H.out.ext (by repeat (first | exact Ext.refl _ | assumption | refine Ext.alloc ?_ _ | refine Ext.drew ?_ | refine Ext.drewN ?_ _ | refine Ext.setCell ?_ (by first | (simp; done) | (simp; omega) | omega) _ | refine Ext.trans ?_ (by assumption))))⟩
  case round =>
    obtain ⟨j, b', hj, rfl, Hx, hnb, HS⟩ := hrel
    have nb := hnb; have nb0 := nb.at0; have nb1 := nb.at1; have nbg := nb.1; have Hnb := Lib.hid nb; clear nb
    clear hnb
    by_cases hlt : j < n.links.length
    · have hok := narTo_ok Hd.out Hd.out.lks j (by omega)
      have hln : (narTo n n.links j).links = n.links := hok.2.lk
      have Hok := Lib.hid hok
      have HL := Lib.hid (show Links wr 0 wr.heap.size (.slice Ak n.links.length ck) n.links from by have := HS.out.netIn.2; rwa [hln] at this)
      obtain ⟨bl, off, rfl, _, hbl, c1, c2, c3, c4⟩ := HL.out.at_ hlt
      have Hlk0 := Lib.hid (Hd.out.lks j hlt)
      have Hlk := Lib.hid (show LkOk (lkAt n.links j) (narTo n n.links j).sets.length from by rw [hok.2.ns]; exact Hd.out.lks j hlt)
      clear hok hln
      go_wp2_with fail
      have hxa : Ext wr (wr.alloc (.cells #[.int .i64 (lkAt n.links j).be, .int .i64 (lkAt n.links j).af, .int .i64 (lkAt n.links j).le, .int .i64 (lkAt n.links j).mo] 60)) := (by repeat (first | exact Ext.refl _ | assumption | refine Ext.alloc ?_ _ | refine Ext.drew ?_ | refine Ext.drewN ?_ _ | refine Ext.setCell ?_ (by first | (simp; done) | (simp; omega) | omega) _ | refine Ext.trans ?_ (by assumption)))
      refine Calls.mono (impl_narrowLink _ _ (narTo n n.links j) (lkAt n.links j) lo a b' _ (HS.out.ext hxa) Hok.out.1 Hlk.out) ?_
      rintro e w3 ⟨rfl, hO3, hS3⟩
      have hO3' : Off (fun x => a ≤ x ∧ x < b) _ w3 := hO3.mono (fun x hh => Hsb.out (by obtain ⟨⟨x1, x2⟩, _⟩ := Hlk0.out; omega) x hh)
      have hO := (Hx.out.trans (Off.of_ext hxa)).trans hO3'
      have hb3 := (Hnb.out.ext hxa).off hO3' (fun hh => by have := H.out.bw; omega)
      clear c1 c2 c3 c4 nb0 nb1 nbg
      go_wp2_with fail
      go_roundg (n.links.length - (j + 1))
      case measure => omega
      case rel => exact ⟨j + 1, _, by omega, by go_num, Lib.hid hO, hb3, Lib.hid hS3⟩
    · obtain rfl : j = n.links.length := by omega
      go_wp2_with fail
      go_end0
      exact ⟨rfl, Hx.out, ⟨HS.out.la, by have := HS.out.ab; have := HS.out.bw; omega, Nat.le_refl _, HS.out.sets.wide HS.out.bw, HS.out.links, HS.out.lk⟩⟩
theorem NetS.wide {T : TypeId} {w : World} {lo a b : Nat} {s k : Value} {n : Net} (h : NetS T w lo a b s k n) : NetS T w lo a w.heap.size s k n :=
  ⟨h.la, by have := h.ab; have := h.bw; omega, Nat.le_refl _, h.sets.wide h.bw, h.links, h.lk⟩
theorem NetS.of2 {T : TypeId} {n : Net} {w : World} {e : Ending} {w' : World} (h : NewNetL T n w e w') : ∃ A c A' c' a b, e = .returned (.agg #[.slice A n.sets.length c, .slice A' n.links.length c']) ∧ Ext w w' ∧ NetS T w' w.heap.size a b (.slice A n.sets.length c) (.slice A' n.links.length c') n := by
  obtain ⟨s, k, a, b, rfl, h1, h2⟩ := NetS.of h
  obtain ⟨A, c, rfl, _, _⟩ := h2.netIn.1.len
  obtain ⟨A', c', rfl, _, _⟩ := h2.netIn.2.len
  exact ⟨A, c, A', c', a, b, rfl, h1, h2⟩
theorem off_two (r : Nat) (w : World) (u v : Value) : Off (fun x => x = r) w ((w.setCell ⟨r, 0, none⟩ u).setCell ⟨r, 1, none⟩ v) :=
  Off.setCell (S := fun x => x = r) (p := ⟨r, 1, none⟩) (Off.setCell (S := fun x => x = r) (p := ⟨r, 0, none⟩) (Off.refl _ _) (.inl rfl) _) (.inl rfl) _
/-- a box r of the call's own is written -/
theorem NetS.stored {T : TypeId} {n : Net} {w : World} {lo a b r : Nat} {s k u v : Value} (h : NetS T w lo a b s k n) (hr : r < lo) : NetS T ((w.setCell ⟨r, 0, none⟩ u).setCell ⟨r, 1, none⟩ v) lo a b s k n :=
  h.off (off_two r w u v) (fun x hx => .inl ⟨by have := h.la; omega, fun hh => by have := (h.links.lt _ hh).1; omega⟩)
theorem Ext.stored {w w' : World} {r : Nat} {u v : Value} (h : Ext w w') (hr : w.heap.size ≤ r) : Ext w ((w'.setCell ⟨r, 0, none⟩ u).setCell ⟨r, 1, none⟩ v) :=
  h.off (off_two r w' u v) (fun x hx hh => by omega)
theorem NetS.fin2 {T : TypeId} {n : Net} {w w' : World} {lo a b r : Nat} {s k : Value} (c : Int) (hx : Ext w w') (hr : w.heap.size ≤ r) (hlo : r < lo) (h : NetS T w' lo a b s k n) :
    NewNet2 n c w (.returned (.tuple #[.agg #[s, k], .int .i64 c])) ((w'.setCell ⟨r, 0, none⟩ s).setCell ⟨r, 1, none⟩ k) :=
  ⟨s, k, rfl, hx.stored hr, ((h.mono (lo' := w.heap.size) (by omega)).off (off_two r w' s k) (fun x hx => .inl ⟨by have := h.la; omega, fun hh => by have := (h.links.lt _ hh).1; omega⟩)).own⟩
end Go.Proofs.Ytfajmlkiidnhlaa
