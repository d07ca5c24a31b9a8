/- Texts merged (a claim holds at most sixty files): Nl, Nk, Lm, Lr. -/
import Derived.Test.YtfajmlkiidnhlaaQ4Nr
import Derived.Test.YtfajmlkiidnhlaaQ4Pe
import Derived.Test.YtfajmlkiidnhlaaQ4V
import Derived.Deep.RegionHeld3
import Derived.Test.YtfajmlkiidnhlaaQ4Na
import Derived.Test.YtfajmlkiidnhlaaQ4A
import Derived.Deep.RegionLaw
/- Contracts: narrowLink of a network that is changed, and l19Link. -/
namespace Go.Proofs.Ytfajmlkiidnhlaa
set_option linter.unusedVariables false
set_option linter.unusedSimpArgs false
open Go.RowKit
attribute [local go_sem] cell_onto

theorem Ext.and_fz {w w' : World} {g i : Nat} {c : Bool} {r : Prop} (hg : g < w.heap.size) (hc : w.frozen? ⟨g, i, none⟩ = c) (hx : Ext w w') (hr : r) : w'.frozen? ⟨g, i, none⟩ = c ∧ r :=
  ⟨(hx.frozen (p := ⟨g, i, none⟩) hg).trans hc, hr⟩
theorem Off.and_cell {S : Nat → Prop} {w w' : World} {g i : Nat} {c : Value} {r : Prop} (hg : g < w.heap.size) (hs : ¬ S g) (hc : w.cell? ⟨g, i, none⟩ = some c) (hx : Off S w w') (hr : r) : w'.cell? ⟨g, i, none⟩ = some c ∧ r :=
  ⟨(hx.cell (p := ⟨g, i, none⟩) hg hs).trans hc, hr⟩
theorem Off.put_ {g0 o : Nat} {a w : World} {u : Value} (h : Ext a w) : Off (fun x => x = g0) a (w.setCell ⟨g0, o, none⟩ u) := Off.setCell (S := fun x => x = g0) (p := ⟨g0, o, none⟩) (Off.of_ext h) (.inl rfl) u
theorem Off.box24 {S : Nat → Prop} {w w' : World} {g h : Nat} {a b c d e f : Value} (hx : Off S w w') (hg : g < w.heap.size) (hs : ¬ S g) (h0 : w.cell? ⟨g, 0, none⟩ = some a) (h1 : w.cell? ⟨g, 1, none⟩ = some b) (hh : h < w.heap.size) (ht : ¬ S h) (k0 : w.cell? ⟨h, 0, none⟩ = some c) (k1 : w.cell? ⟨h, 1, none⟩ = some d) (k2 : w.cell? ⟨h, 2, none⟩ = some e) (k3 : w.cell? ⟨h, 3, none⟩ = some f) :
    w'.cell? ⟨g, 0, none⟩ = some a ∧ w'.cell? ⟨g, 1, none⟩ = some b ∧ w'.cell? ⟨h, 0, none⟩ = some c ∧ w'.cell? ⟨h, 1, none⟩ = some d ∧ w'.cell? ⟨h, 2, none⟩ = some e ∧ w'.cell? ⟨h, 3, none⟩ = some f ∧ Off S w w' :=
  Off.and_cell hg hs h0 hx (Off.and_cell hg hs h1 hx (Off.and_cell hh ht k0 hx (Off.and_cell hh ht k1 hx (Off.and_cell hh ht k2 hx (Off.and_cell hh ht k3 hx hx)))))
/-- a network of the call's own: its sets lie in [a, b), its links in a block before a -/
structure NetS (T : TypeId) (w : World) (lo a b : Nat) (s k : Value) (n : Net) : Prop where
  la : lo ≤ a
  ab : a ≤ b
  bw : b ≤ w.heap.size
  sets : OwnSets w a b s n.sets
  links : w.ownsRow lo T 4 k n.links.length (cellsOf (n.links.length * 4) (linkCell n.links))
  lk : ∀ g, k.ownBlock = some g → g < a
theorem NetS.of {T : TypeId} {n : Net} {w : World} {e : Ending} {w' : World} (h : NewNetL T n w e w') : ∃ s k a b, e = .returned (.agg #[s, k]) ∧ Ext w w' ∧ NetS T w' w.heap.size a b s k n := by
  obtain ⟨s, k, a, b, h1, h2, h3, h4, h5, h6, h7, h8⟩ := h
  exact ⟨s, k, a, b, h1, h2, h3, h4, h5, h6, h7, h8⟩
section
variable {T : TypeId} {w w' : World} {lo a b : Nat} {s k : Value} {n : Net}
theorem NetS.ext (h : NetS T w lo a b s k n) (hx : Ext w w') : NetS T w' lo a b s k n := ⟨h.la, h.ab, Nat.le_trans h.bw hx.size, h.sets.ext hx, row_ext h.links hx, h.lk⟩
theorem NetS.netIn (h : NetS T w lo a b s k n) : NetIn w s k n := by
  obtain ⟨g, hg, ho⟩ := Own.of_owned h.links
  exact ⟨h.sets.sets.mono (Nat.zero_le _) h.bw, ho.row (fun h0 => ⟨Nat.zero_le _, ho.lt h0⟩)⟩
theorem NetS.own (h : NetS T w lo a b s k n) : OwnNet w lo w.heap.size (.agg #[s, k]) n := ownNet_of h.sets h.links h.la h.bw (fun g hg hh => by have := h.lk g hg; omega)
theorem NetS.mono {lo' : Nat} (h : NetS T w lo a b s k n) (hl : lo' ≤ lo) : NetS T w lo' a b s k n := ⟨Nat.le_trans hl h.la, h.ab, h.bw, h.sets, ownsRow_mono h.links hl, h.lk⟩
/-- the cell of a set's header -/
theorem NetS.cell {A : Option Addr} {m c v : Nat} (h : NetS T w lo a b (.slice A m c) k n) (hv : v < n.sets.length) : ∃ g0 off z, A = some ⟨g0, off, none⟩ ∧ a ≤ g0 ∧ g0 < b ∧ w.cell? ⟨g0, off + v, none⟩ = some z ∧ w.frozen? ⟨g0, off + v, none⟩ = false := by
  obtain ⟨g0, f, g, h1, h2, h3, h4⟩ := h.sets
  obtain ⟨_, A', c', e⟩ := h1.len
  have hn : 0 < n.sets.length := by omega
  obtain ⟨off, e2, hlt, hc⟩ := h1.at_ hn
  obtain ⟨x1, x2⟩ := h2 hn
  obtain ⟨y1, y2⟩ := hc v (by omega)
  exact ⟨g0, off, _, e2, x1, x2, y1, y2⟩
theorem NetS.put {w2 : World} {c v N : Nat} {A : Option Addr} {u : Value} {x : List Sp} {T2 : TypeId} (h : NetS T w lo a b (.slice A N c) k n) (hN : N = n.sets.length) (hv : v < n.sets.length) (hx : Ext w w2) (hu : w2.ownsRow w.heap.size T2 2 u x.length (cellsOf (x.length * 2) (spanCell x))) :
    ∃ g0 off, A = some ⟨g0, off, none⟩ ∧ a ≤ g0 ∧ g0 < b ∧ NetS T (w2.setCell ⟨g0, off + v, none⟩ u) lo a w2.heap.size (.slice A N c) k ⟨n.sets.set v x, n.links⟩ := by
  subst hN
  obtain ⟨gu, hgu, ho⟩ := Own.of_owned hu
  obtain ⟨g0, off, e, h1, h2, _, _, h3⟩ := h.sets.put (x := x) hv hx h.bw ho (fun hn => (hgu hn).2)
  refine ⟨g0, off, e, h1, h2, h.la, by have := hx.size; have := h.bw; have := h.ab; omega, by simp [World.setCell], h3, ?_, h.lk⟩
  exact ownsRow_setCell_other (row_ext h.links hx) (fun hh => by have := h.lk _ hh; exact absurd this (by show ¬ g0 < a; omega)) _
end
theorem LkOk.part {n : Net} {l : Lk} (h : NetD n) (hl : LkOk l n.sets.length) : PartIn n l := by
  obtain ⟨⟨a, b⟩, ⟨c, d⟩, _, e, f, g⟩ := hl
  exact ⟨⟨a, by omega⟩, ⟨c, by omega⟩, e, f, g, h.sets⟩
set_option maxRecDepth 100000 in
set_option maxHeartbeats 16000000 in
theorem impl_narrowLink (s k : Value) (n : Net) (l : Lk) (lo a b : Nat) (w : World) (h : NetS 60 w lo a b s k n) (hn : NetD n) (hl : LkOk l n.sets.length) :
    Calls Try.prog 146 #[.agg #[s, k], .agg #[.int .i64 l.be, .int .i64 l.af, .int .i64 l.le, .int .i64 l.mo]] w (fun e w' => e = .returned (.tuple #[]) ∧ Off (fun x => s.ownBlock = some x) w w' ∧ NetS 60 w' lo a w'.heap.size s k (narL n l)) := by
  obtain ⟨As, cs, rfl, hns, hcs⟩ := h.netIn.1.len
  obtain ⟨Ak, ck, rfl, hnk, hck⟩ := h.netIn.2.len
  have Hn1 := Lib.hid (nar1_ok hn hl)
  have Hl1 : Hid (LkOk l (nar1 n l).sets.length) := Lib.hid (by rw [Hn1.out.2.ns]; exact hl)
  have Hp := Lib.hid (LkOk.part hn hl)
  have Hp1 := Lib.hid (LkOk.part Hn1.out.1 Hl1.out)
  obtain ⟨⟨be1, be2⟩, ⟨af1, af2⟩, -⟩ := hl
  have H := Lib.hid h
  have hbw := h.bw
  have hbN : l.be.toNat < n.sets.length := by omega
  have haN : l.af.toNat < n.sets.length := by omega
  have hbI : l.be < (n.sets.length : Int) := by omega
  have haI : l.af < (n.sets.length : Int) := by omega
  obtain ⟨g0, off, za, rfl, ga, gb, c1, z1⟩ := h.cell haN
  clear h hn
  go_enter Try.func146, Try.ntmps146
  go_wp2_with fail
  obtain ⟨w0, hw0⟩ : ∃ x : World, x = (w.alloc (.cells #[.slice (some ⟨g0, off, none⟩) n.sets.length cs, .slice Ak n.links.length ck] 27)).alloc (.cells #[.int .i64 l.be, .int .i64 l.af, .int .i64 l.le, .int .i64 l.mo] 60) := ⟨_, rfl⟩
  have hx0 : Ext w w0 := by rw [hw0]; exact (by repeat (first | exact Ext.refl _ | assumption | refine Ext.alloc ?_ _ | refine Ext.drew ?_ | refine Ext.drewN ?_ _ | refine Ext.setCell ?_ (by first | (simp; done) | (simp; omega) | omega) _ | refine Ext.trans ?_ (by assumption)))
  have nb := (show Boxed w0 w.heap.size [.slice (some ⟨g0, off, none⟩) n.sets.length cs, .slice Ak n.links.length ck] from by rw [hw0]; exact (Boxed.new w [.slice (some ⟨g0, off, none⟩) n.sets.length cs, .slice Ak n.links.length ck] 27).ext ((Ext.refl _).alloc _)); have nb0 := nb.at0; have nb1 := nb.at1; have nbg := nb.1; have Hnb := Lib.hid nb; clear nb
  have Hlb0 : Hid (Boxed w0 (w.heap.size + 1) [.int .i64 l.be, .int .i64 l.af, .int .i64 l.le, .int .i64 l.mo]) := Lib.hid (by
    have := Boxed.new (w.alloc (.cells #[.slice (some ⟨g0, off, none⟩) n.sets.length cs, .slice Ak n.links.length ck] 27)) [.int .i64 l.be, .int .i64 l.af, .int .i64 l.le, .int .i64 l.mo] 60
    rw [World.size_alloc] at this
    rw [hw0]
    exact this)
  have lb := Hlb0.out; have lb0 := lb.at0; have lb1 := lb.at1; have lb2 := lb.at2; have lb3 := lb.at3; have lbg := lb.1; have Hlb := Lib.hid lb; clear lb
  rw [← hw0]
  clear hw0 Hlb0
  have Hx0 := Lib.hid hx0
  have hz0 := hx0.size
  have hg0 : g0 < w0.heap.size := by omega
  have q1 := (hx0.cell (p := ⟨g0, off + l.af.toNat, none⟩) (by show g0 < _; omega)).trans c1
  have q2 := (hx0.frozen (p := ⟨g0, off + l.af.toNat, none⟩) (by show g0 < _; omega)).trans z1
  clear c1 z1
  have hnn : ¬ (fun x => x = g0) w.heap.size := by show ¬ (_ = g0); omega
  have hnl : ¬ (fun x => x = g0) (w.heap.size + 1) := by show ¬ (_ = g0); omega
  go_region_held3 (fun w' => w'.cell? ⟨w.heap.size, 0, none⟩ = some (.slice (some ⟨g0, off, none⟩) n.sets.length cs) ∧ w'.cell? ⟨w.heap.size, 1, none⟩ = some (.slice Ak n.links.length ck) ∧ w'.cell? ⟨w.heap.size + 1, 0, none⟩ = some (.int .i64 l.be) ∧ w'.cell? ⟨w.heap.size + 1, 1, none⟩ = some (.int .i64 l.af) ∧ w'.cell? ⟨w.heap.size + 1, 2, none⟩ = some (.int .i64 l.le) ∧ w'.cell? ⟨w.heap.size + 1, 3, none⟩ = some (.int .i64 l.mo) ∧ Off (fun x => x = g0) w0 w')
    ((refine Off.box24 (S := fun x => x = g0) ?_ nbg hnn nb0 nb1 lbg hnl lb0 lb1 lb2 lb3; first | exact Off.put_ hxp0 | (refine Off.of_ext ?_; exact (by repeat (first | exact Ext.refl _ | assumption | refine Ext.alloc ?_ _ | refine Ext.drew ?_ | refine Ext.drewN ?_ _ | refine Ext.setCell ?_ (by first | (simp; done) | (simp; omega) | omega) _ | refine Ext.trans ?_ (by assumption))))))
    ((first
      | (go_at_call 142; refine Calls.mono (impl_partnerDays _ _ n l true _ (H.out.netIn.up (by repeat (first | exact Ext.refl _ | assumption | refine Ext.alloc ?_ _ | refine Ext.drew ?_ | refine Ext.drewN ?_ _ | refine Ext.setCell ?_ (by first | (simp; done) | (simp; omega) | omega) _ | refine Ext.trans ?_ (by assumption)))) Hp.out) ?_; rintro e wp ⟨vp, rfl, hxp, hrp⟩; obtain ⟨Ap, cp, rfl⟩ := ownsRow_len hrp; have hxp0 : Ext w0 wp := (by repeat (first | exact Ext.refl _ | assumption | refine Ext.alloc ?_ _ | refine Ext.drew ?_ | refine Ext.drewN ?_ _ | refine Ext.setCell ?_ (by first | (simp; done) | (simp; omega) | omega) _ | refine Ext.trans ?_ (by assumption))); have q3 := (hxp0.cell (p := ⟨g0, off + l.af.toNat, none⟩) hg0).trans q1; have q4 := (hxp0.frozen (p := ⟨g0, off + l.af.toNat, none⟩) hg0).trans q2)))
  obtain ⟨w2, hw2⟩ : ∃ x : World, x = wp.setCell ⟨g0, off + l.af.toNat, none⟩ (.slice Ap (partN n l true).length cp) := ⟨_, rfl⟩
  have hO2 : Off (fun x => x = g0) w0 w2 := by rw [hw2]; exact Off.put_ hxp0
  have hS2 : NetS 60 w2 lo a wp.heap.size (.slice (some ⟨g0, off, none⟩) n.sets.length cs) (.slice Ak n.links.length ck) (nar1 n l) := by
    obtain ⟨g1, off1, e1, _, _, hS2⟩ := H.out.put rfl haN (hx0.trans hxp0) (ownsRow_mono hrp hx0.size)
    injection e1 with e1
    injection e1 with e2 e3
    subst e2 e3
    rw [hw2]
    exact hS2
  rw [← hw2]
  have hnl1 : (nar1 n l).sets.length = n.sets.length := Hn1.out.2.ns
  obtain ⟨g1, off1, zb, e1, _, _, c3, z3⟩ := hS2.cell (v := l.be.toNat) (by rw [hnl1]; exact hbN)
  injection e1 with e1
  injection e1 with e2 e3
  subst e2 e3
  have hz2 := hO2.size
  have HS2 := Lib.hid hS2
  have HO2 := Lib.hid hO2
  obtain ⟨mb0, mb1, kb0, kb1, kb2, kb3, -⟩ := Off.box24 hO2 nbg hnn nb0 nb1 lbg hnl lb0 lb1 lb2 lb3
  have mbg : w.heap.size < w2.heap.size := by omega
  have kbg : w.heap.size + 1 < w2.heap.size := by omega
  have hg2 : g0 < w2.heap.size := by omega
  clear hw2 hS2 hO2 q1 q2 q3 q4 hxp hxp0 hrp nb0 nb1 nbg lb0 lb1 lb2 lb3 lbg hx0
  go_wp2_with fail
  go_region_held3 (fun w' => w'.cell? ⟨w.heap.size, 0, none⟩ = some (.slice (some ⟨g0, off, none⟩) n.sets.length cs) ∧ w'.cell? ⟨w.heap.size, 1, none⟩ = some (.slice Ak n.links.length ck) ∧ w'.cell? ⟨w.heap.size + 1, 0, none⟩ = some (.int .i64 l.be) ∧ w'.cell? ⟨w.heap.size + 1, 1, none⟩ = some (.int .i64 l.af) ∧ w'.cell? ⟨w.heap.size + 1, 2, none⟩ = some (.int .i64 l.le) ∧ w'.cell? ⟨w.heap.size + 1, 3, none⟩ = some (.int .i64 l.mo) ∧ Off (fun x => x = g0) w2 w')
    ((refine Off.box24 (S := fun x => x = g0) ?_ mbg hnn mb0 mb1 kbg hnl kb0 kb1 kb2 kb3; first | exact Off.put_ hxq0 | (refine Off.of_ext ?_; exact (by repeat (first | exact Ext.refl _ | assumption | refine Ext.alloc ?_ _ | refine Ext.drew ?_ | refine Ext.drewN ?_ _ | refine Ext.setCell ?_ (by first | (simp; done) | (simp; omega) | omega) _ | refine Ext.trans ?_ (by assumption))))))
    ((first
      | (go_at_call 142; refine Calls.mono (impl_partnerDays _ _ (nar1 n l) l false _ (HS2.out.netIn.up (by repeat (first | exact Ext.refl _ | assumption | refine Ext.alloc ?_ _ | refine Ext.drew ?_ | refine Ext.drewN ?_ _ | refine Ext.setCell ?_ (by first | (simp; done) | (simp; omega) | omega) _ | refine Ext.trans ?_ (by assumption)))) Hp1.out) ?_; rintro e wq ⟨vq, rfl, hxq, hrq⟩; obtain ⟨Aq, cq, rfl⟩ := ownsRow_len hrq; have hxq0 : Ext w2 wq := (by repeat (first | exact Ext.refl _ | assumption | refine Ext.alloc ?_ _ | refine Ext.drew ?_ | refine Ext.drewN ?_ _ | refine Ext.setCell ?_ (by first | (simp; done) | (simp; omega) | omega) _ | refine Ext.trans ?_ (by assumption))); have q3 := (hxq0.cell (p := ⟨g0, off + l.be.toNat, none⟩) hg2).trans c3; have q4 := (hxq0.frozen (p := ⟨g0, off + l.be.toNat, none⟩) hg2).trans z3)))
  obtain ⟨w4, hw4⟩ : ∃ x : World, x = wq.setCell ⟨g0, off + l.be.toNat, none⟩ (.slice Aq (partN (nar1 n l) l false).length cq) := ⟨_, rfl⟩
  have hO4 : Off (fun x => x = g0) w2 w4 := by rw [hw4]; exact Off.put_ hxq0
  have hS4 : NetS 60 w4 lo a w4.heap.size (.slice (some ⟨g0, off, none⟩) n.sets.length cs) (.slice Ak n.links.length ck) (narL n l) := by
    obtain ⟨g1, off1, e1, _, _, hS4⟩ := HS2.out.put hnl1.symm (v := l.be.toNat) (by rw [hnl1]; exact hbN) hxq0 hrq
    injection e1 with e1
    injection e1 with e2 e3
    subst e2 e3
    rw [hw4]
    have e : (wq.setCell ⟨g0, off + l.be.toNat, none⟩ (.slice Aq (partN (nar1 n l) l false).length cq)).heap.size = wq.heap.size := by simp [World.setCell]
    rw [e]
    exact hS4
  rw [← hw4]
  clear hw4
  go_wp2_with fail
  go_end0
  exact ⟨rfl, (((Off.of_ext Hx0.out).trans HO2.out).trans hO4).mono (fun k hk => by rw [hk]; rfl), hS4⟩
end Go.Proofs.Ytfajmlkiidnhlaa

/- Contract: l19Link. -/
namespace Go.Proofs.Ytfajmlkiidnhlaa
set_option linter.unusedVariables false
set_option linter.unusedSimpArgs false
open Go.RowKit
attribute [local go_sem] cell_onto
theorem NetD.small {n : Net} (h : NetD n) : Small n := ⟨by have := h.ns; omega, by have := h.nl; omega, fun i hi => by have := (h.sets i hi).len; omega⟩
theorem NetS.to {T : TypeId} {n : Net} {w w' : World} {a b : Nat} {s k : Value} (hx : Ext w w') (h : NetS T w' w.heap.size a b s k n) : NewNetL T n w (.returned (.agg #[s, k])) w' :=
  ⟨s, k, a, b, rfl, hx, h.la, h.ab, h.bw, h.sets, h.links, h.lk⟩
theorem NetS.off {S : Nat → Prop} {T : TypeId} {n : Net} {w w' : World} {lo a b : Nat} {s k : Value} (h : NetS T w lo a b s k n) (hx : Off S w w') (hs : ∀ x, S x → (x < a ∧ k.ownBlock ≠ some x) ∨ b ≤ x) : NetS T w' lo a b s k n :=
  ⟨h.la, h.ab, Nat.le_trans h.bw hx.size, h.sets.off hx (fun x h1 h2 hh => by rcases hs x hh with h3 | h3 <;> omega), ownsRow_off h.links hx (fun g hg hh => by
    rcases hs g hh with h3 | h3
    · exact h3.2 hg
    · have := h.lk g hg; have := h.ab; omega), h.lk⟩
set_option maxRecDepth 100000 in
set_option maxHeartbeats 16000000 in
theorem spec_l19Link (s k : Value) (n : Net) (l : Lk) (w : World) (h : NetIn w s k n) (hn : NetD n) (hl : LkOk l n.sets.length) :
    Calls Try.prog 149 #[.agg #[s, k], .agg #[.int .i64 l.be, .int .i64 l.af, .int .i64 l.le, .int .i64 l.mo]] w (NewNetL 60 (narL n l) w) := by
  obtain ⟨As, c0, rfl, hns0, hcs0⟩ := h.1.len
  obtain ⟨Ar, c1, rfl, hnk0, hck0⟩ := h.2.len
  have Hsm := Lib.hid hn.small
  have Hn1 := Lib.hid (nar1_ok hn hl)
  have Hl1 : Hid (LkOk l (nar1 n l).sets.length) := Lib.hid (by rw [Hn1.out.2.ns]; exact hl)
  have Hp := Lib.hid (LkOk.part hn hl)
  have Hp1 := Lib.hid (LkOk.part Hn1.out.1 Hl1.out)
  obtain ⟨⟨be1, be2⟩, ⟨af1, af2⟩, -⟩ := hl
  have H := Lib.hid h
  have hbN : l.be.toNat < n.sets.length := by omega
  have haN : l.af.toNat < n.sets.length := by omega
  have hbI : l.be < (n.sets.length : Int) := by omega
  have haI : l.af < (n.sets.length : Int) := by omega
  clear h hn
  obtain ⟨w0, hw0⟩ : ∃ x : World, x = (((w.alloc (.cells #[.slice As n.sets.length c0, .slice Ar n.links.length c1] 27)).alloc (.cells #[.int .i64 l.be, .int .i64 l.af, .int .i64 l.le, .int .i64 l.mo] 60)).alloc (.cells #[.slice none 0 0, .slice none 0 0] 27)) := ⟨_, rfl⟩
  have hz0 : w0.heap.size = w.heap.size + 1 + 1 + 1 := by rw [hw0]; simp
  have Hx0 : Hid (Ext w w0) := Lib.hid (by rw [hw0]; exact (by repeat (first | exact Ext.refl _ | assumption | refine Ext.alloc ?_ _ | refine Ext.drew ?_ | refine Ext.drewN ?_ _ | refine Ext.setCell ?_ (by first | (simp; done) | (simp; omega) | omega) _ | refine Ext.trans ?_ (by assumption))))
  have Hlb : Hid (Boxed w0 (w.heap.size + 1) [.int .i64 l.be, .int .i64 l.af, .int .i64 l.le, .int .i64 l.mo]) := Lib.hid (by
    have := (Boxed.new (w.alloc (.cells #[.slice As n.sets.length c0, .slice Ar n.links.length c1] 27)) [.int .i64 l.be, .int .i64 l.af, .int .i64 l.le, .int .i64 l.mo] 60).ext ((Ext.refl _).alloc (.cells #[.slice none 0 0, .slice none 0 0] 27))
    rw [World.size_alloc] at this
    rw [hw0]
    exact this)
  have Hrb : Hid (Boxed w0 (w.heap.size + 1 + 1) [.slice none 0 0, .slice none 0 0]) := Lib.hid (by
    have := Boxed.new ((w.alloc (.cells #[.slice As n.sets.length c0, .slice Ar n.links.length c1] 27)).alloc (.cells #[.int .i64 l.be, .int .i64 l.af, .int .i64 l.le, .int .i64 l.mo] 60)) [.slice none 0 0, .slice none 0 0] 27
    rw [World.size_alloc, World.size_alloc] at this
    rw [hw0]
    exact this)
  have Hw0 := Lib.hid hw0
  clear hw0
  go_enter Try.func149, Try.ntmps149
  go_wp2_with fail
  rw [← Hw0.out]
  refine Calls.mono (spec_l18Own _ _ n _ (H.out.up Hx0.out) Hsm.out) ?_
  rintro e w3 hnew
  obtain ⟨so, ko, a, b, rfl, hx3, hS3⟩ := NetS.of hnew
  obtain ⟨Ao, cs, rfl, hns, hcs⟩ := hS3.netIn.1.len
  obtain ⟨Ak, ck, rfl, hnk, hck⟩ := hS3.netIn.2.len
  obtain ⟨g0, off, za, rfl, ga, gb, c1', z1'⟩ := hS3.cell haN
  have hla := hS3.la
  have hbw := hS3.bw
  have hz3 := hx3.size
  have hx4 : Ext w3 (w3.alloc (.cells #[.slice (some ⟨g0, off, none⟩) n.sets.length cs, .slice Ak n.links.length ck] 27)) := (by repeat (first | exact Ext.refl _ | assumption | refine Ext.alloc ?_ _ | refine Ext.drew ?_ | refine Ext.drewN ?_ _ | refine Ext.setCell ?_ (by first | (simp; done) | (simp; omega) | omega) _ | refine Ext.trans ?_ (by assumption)))
  have HS := Lib.hid (hS3.ext hx4)
  have Hlb4 := Lib.hid ((Hlb.out.ext hx3).ext hx4)
  have Hrb4 := Lib.hid ((Hrb.out.ext hx3).ext hx4)
  have Hxw := Lib.hid ((Hx0.out.trans hx3).trans hx4)
  have Hob := Lib.hid (Boxed.new w3 [.slice (some ⟨g0, off, none⟩) n.sets.length cs, .slice Ak n.links.length ck] 27)
  have q1 := (hx4.cell (p := ⟨g0, off + l.af.toNat, none⟩) (by show g0 < _; omega)).trans c1'
  have q2 := (hx4.frozen (p := ⟨g0, off + l.af.toNat, none⟩) (by show g0 < _; omega)).trans z1'
  have hz4 : (w3.alloc (.cells #[.slice (some ⟨g0, off, none⟩) n.sets.length cs, .slice Ak n.links.length ck] 27)).heap.size = w3.heap.size + 1 := by simp
  obtain ⟨w4, hw4⟩ : ∃ x : World, x = w3.alloc (.cells #[.slice (some ⟨g0, off, none⟩) n.sets.length cs, .slice Ak n.links.length ck] 27) := ⟨_, rfl⟩
  rw [← hw4] at HS Hlb4 Hrb4 Hxw Hob q1 q2 hz4
  clear hx4 c1' z1' hS3 Hlb Hrb hx3 hnew
  go_wp2_with fail
  rw [← hw4]
  clear hw4 Hw0
  have nb := Hob.out; have nb0 := nb.at0; have nb1 := nb.at1; have nbg := nb.1; have Hnb := Lib.hid nb; clear nb
  have lb := Hlb4.out; have lb0 := lb.at0; have lb1 := lb.at1; have lb2 := lb.at2; have lb3 := lb.at3; have lbg := lb.1; have Hlb := Lib.hid lb; clear lb
  have hg0 : g0 < w4.heap.size := by omega
  have hnn : ¬ (fun x => x = g0) w3.heap.size := by show ¬ (_ = g0); omega
  have hnl : ¬ (fun x => x = g0) (w.heap.size + 1) := by show ¬ (_ = g0); omega
  go_region_held3 (fun w' => w'.cell? ⟨w3.heap.size, 0, none⟩ = some (.slice (some ⟨g0, off, none⟩) n.sets.length cs) ∧ w'.cell? ⟨w3.heap.size, 1, none⟩ = some (.slice Ak n.links.length ck) ∧ w'.cell? ⟨w.heap.size + 1, 0, none⟩ = some (.int .i64 l.be) ∧ w'.cell? ⟨w.heap.size + 1, 1, none⟩ = some (.int .i64 l.af) ∧ w'.cell? ⟨w.heap.size + 1, 2, none⟩ = some (.int .i64 l.le) ∧ w'.cell? ⟨w.heap.size + 1, 3, none⟩ = some (.int .i64 l.mo) ∧ Off (fun x => x = g0) w4 w')
    ((refine Off.box24 (S := fun x => x = g0) ?_ nbg hnn nb0 nb1 lbg hnl lb0 lb1 lb2 lb3; first | exact Off.put_ hxp0 | (refine Off.of_ext ?_; exact (by repeat (first | exact Ext.refl _ | assumption | refine Ext.alloc ?_ _ | refine Ext.drew ?_ | refine Ext.drewN ?_ _ | refine Ext.setCell ?_ (by first | (simp; done) | (simp; omega) | omega) _ | refine Ext.trans ?_ (by assumption))))))
    ((first
      | (go_at_call 145; refine Calls.mono (spec_l19Partner _ _ n l true _ (HS.out.netIn.up (by repeat (first | exact Ext.refl _ | assumption | refine Ext.alloc ?_ _ | refine Ext.drew ?_ | refine Ext.drewN ?_ _ | refine Ext.setCell ?_ (by first | (simp; done) | (simp; omega) | omega) _ | refine Ext.trans ?_ (by assumption)))) Hp.out) ?_; rintro e wp ⟨vp, rfl, hxwp, hrwp⟩; obtain ⟨Ap, cp, rfl⟩ := ownsRow_len hrwp; have hxp0 : Ext w4 wp := (by repeat (first | exact Ext.refl _ | assumption | refine Ext.alloc ?_ _ | refine Ext.drew ?_ | refine Ext.drewN ?_ _ | refine Ext.setCell ?_ (by first | (simp; done) | (simp; omega) | omega) _ | refine Ext.trans ?_ (by assumption))); have q3 := (hxp0.cell (p := ⟨g0, off + l.af.toNat, none⟩) hg0).trans q1; have q4 := (hxp0.frozen (p := ⟨g0, off + l.af.toNat, none⟩) hg0).trans q2)))
  obtain ⟨w5, hw5⟩ : ∃ x : World, x = wp.setCell ⟨g0, off + l.af.toNat, none⟩ (.slice Ap (partN n l true).length cp) := ⟨_, rfl⟩
  have hO5 : Off (fun x => x = g0) w4 w5 := by rw [hw5]; exact Off.put_ hxp0
  have hS5 : NetS 60 w5 w0.heap.size a wp.heap.size (.slice (some ⟨g0, off, none⟩) n.sets.length cs) (.slice Ak n.links.length ck) (nar1 n l) := by
    obtain ⟨g1, off1, e1, _, _, hS2⟩ := HS.out.put rfl haN hxp0 hrwp
    injection e1 with e1
    injection e1 with e2 e3
    subst e2 e3
    rw [hw5]
    exact hS2
  rw [← hw5]
  have hnl1 : (nar1 n l).sets.length = n.sets.length := Hn1.out.2.ns
  obtain ⟨g1, off1, zb, e1, _, _, c3, z3⟩ := hS5.cell (v := l.be.toNat) (by rw [hnl1]; exact hbN)
  injection e1 with e1
  injection e1 with e2 e3
  subst e2 e3
  have hz5 := hO5.size
  have HS5 := Lib.hid hS5
  have HO5 := Lib.hid hO5
  obtain ⟨mb0, mb1, kb0, kb1, kb2, kb3, -⟩ := Off.box24 hO5 nbg hnn nb0 nb1 lbg hnl lb0 lb1 lb2 lb3
  have mbg : w3.heap.size < w5.heap.size := by omega
  have kbg : w.heap.size + 1 < w5.heap.size := by omega
  have hg5 : g0 < w5.heap.size := by omega
  clear hw5 hS5 hO5 q1 q2 q3 q4 hxwp hxp0 hrwp nb0 nb1 nbg lb0 lb1 lb2 lb3 lbg
  go_wp2_with fail
  go_region_held3 (fun w' => w'.cell? ⟨w3.heap.size, 0, none⟩ = some (.slice (some ⟨g0, off, none⟩) n.sets.length cs) ∧ w'.cell? ⟨w3.heap.size, 1, none⟩ = some (.slice Ak n.links.length ck) ∧ w'.cell? ⟨w.heap.size + 1, 0, none⟩ = some (.int .i64 l.be) ∧ w'.cell? ⟨w.heap.size + 1, 1, none⟩ = some (.int .i64 l.af) ∧ w'.cell? ⟨w.heap.size + 1, 2, none⟩ = some (.int .i64 l.le) ∧ w'.cell? ⟨w.heap.size + 1, 3, none⟩ = some (.int .i64 l.mo) ∧ Off (fun x => x = g0) w5 w')
    ((refine Off.box24 (S := fun x => x = g0) ?_ mbg hnn mb0 mb1 kbg hnl kb0 kb1 kb2 kb3; first | exact Off.put_ hxq0 | (refine Off.of_ext ?_; exact (by repeat (first | exact Ext.refl _ | assumption | refine Ext.alloc ?_ _ | refine Ext.drew ?_ | refine Ext.drewN ?_ _ | refine Ext.setCell ?_ (by first | (simp; done) | (simp; omega) | omega) _ | refine Ext.trans ?_ (by assumption))))))
    ((first
      | (go_at_call 145; refine Calls.mono (spec_l19Partner _ _ (nar1 n l) l false _ (HS5.out.netIn.up (by repeat (first | exact Ext.refl _ | assumption | refine Ext.alloc ?_ _ | refine Ext.drew ?_ | refine Ext.drewN ?_ _ | refine Ext.setCell ?_ (by first | (simp; done) | (simp; omega) | omega) _ | refine Ext.trans ?_ (by assumption)))) Hp1.out) ?_; rintro e wq ⟨vq, rfl, hxwq, hrwq⟩; obtain ⟨Aq, cq, rfl⟩ := ownsRow_len hrwq; have hxq0 : Ext w5 wq := (by repeat (first | exact Ext.refl _ | assumption | refine Ext.alloc ?_ _ | refine Ext.drew ?_ | refine Ext.drewN ?_ _ | refine Ext.setCell ?_ (by first | (simp; done) | (simp; omega) | omega) _ | refine Ext.trans ?_ (by assumption))); have q3 := (hxq0.cell (p := ⟨g0, off + l.be.toNat, none⟩) hg5).trans c3; have q4 := (hxq0.frozen (p := ⟨g0, off + l.be.toNat, none⟩) hg5).trans z3)))
  obtain ⟨w6, hw6⟩ : ∃ x : World, x = wq.setCell ⟨g0, off + l.be.toNat, none⟩ (.slice Aq (partN (nar1 n l) l false).length cq) := ⟨_, rfl⟩
  have hO6 : Off (fun x => x = g0) w5 w6 := by rw [hw6]; exact Off.put_ hxq0
  have hS6 : NetS 60 w6 w0.heap.size a w6.heap.size (.slice (some ⟨g0, off, none⟩) n.sets.length cs) (.slice Ak n.links.length ck) (narL n l) := by
    obtain ⟨g1, off1, e1, _, _, hS4⟩ := HS5.out.put hnl1.symm (v := l.be.toNat) (by rw [hnl1]; exact hbN) hxq0 hrwq
    injection e1 with e1
    injection e1 with e2 e3
    subst e2 e3
    rw [hw6]
    have e : (wq.setCell ⟨g0, off + l.be.toNat, none⟩ (.slice Aq (partN (nar1 n l) l false).length cq)).heap.size = wq.heap.size := by simp [World.setCell]
    rw [e]
    exact hS4
  rw [← hw6]
  have hO46 := HO5.out.trans hO6
  have hz6 := hO46.size
  have hrb6 := Hrb4.out.off hO46 (fun hh => by omega)
  have hob6 := Hob.out.off hO46 (fun hh => by omega)
  have hx6 := Hxw.out.off hO46 (fun k hk hh => by omega)
  have HS6 := Lib.hid hS6
  clear hw6 hS6 hO6 q3 q4 hxwq hxq0 hrwq mb0 mb1 mbg kb0 kb1 kb2 kb3 kbg c3 z3
  have xb := hob6; have xb0 := xb.at0; have xb1 := xb.at1; have xbg := xb.1; have Hxb := Lib.hid xb; clear xb
  have rb := hrb6; have rb0 := rb.at0; have rb1 := rb.at1; have rbg := rb.1; have Hrb := Lib.hid rb; clear rb
  have rf0 := Hrb.out.fz 0 (by simp)
  have rf1 := Hrb.out.fz 1 (by simp)
  clear hob6 hrb6
  go_wp2_with fail
  refine bodyPost_ret (v := .agg #[.slice (some ⟨g0, off, none⟩) n.sets.length cs, .slice Ak n.links.length ck]) (by simp [results, Try.results149, go_sem, *]) rfl ?_
  have hO : Off (fun k => k = w.heap.size + 1 + 1) w6 ((w6.setCell ⟨w.heap.size + 1 + 1, 0, none⟩ (.slice (some ⟨g0, off, none⟩) n.sets.length cs)).setCell ⟨w.heap.size + 1 + 1, 1, none⟩ (.slice Ak n.links.length ck)) :=
    Off.setCell (S := fun k => k = w.heap.size + 1 + 1) (p := ⟨w.heap.size + 1 + 1, 1, none⟩) (Off.setCell (S := fun k => k = w.heap.size + 1 + 1) (p := ⟨w.heap.size + 1 + 1, 0, none⟩) (Off.refl _ _) (.inl rfl) _) (.inl rfl) _
  refine NetS.to (hx6.off hO (fun k hk hh => by omega)) ((HS6.out.mono (by omega)).off hO (fun x hx => .inl ⟨by omega, fun hh => ?_⟩))
  have := (HS6.out.links.lt _ hh).1
  omega
end Go.Proofs.Ytfajmlkiidnhlaa

/- Contracts: limitedNetwork, l19Result; the rounds of narrowing. -/
namespace Go.Proofs.Ytfajmlkiidnhlaa
set_option linter.unusedVariables false
set_option linter.unusedSimpArgs false
open Go.RowKit
attribute [local go_sem] cell_onto

theorem lim_iff {n : Net} : ¬ Some_ n.sets.length (fun i => ¬ (setAt n.sets i).length ≤ 300) ↔ Lim n := by
  unfold Some_ Lim
  constructor
  · intro h i hi
    exact Classical.byContradiction fun hn => h ⟨i, hi, hn⟩
  · rintro h ⟨i, hi, hn⟩
    exact hn (h i hi)
theorem OwnSets.wide {w : World} {lo b b' : Nat} {s : Value} {l : List (List Sp)} (h : OwnSets w lo b s l) (hb : b ≤ b') : OwnSets w lo b' s l := by
  obtain ⟨g0, f, g, h1, h2, h3, h4⟩ := h
  exact ⟨g0, f, g, h1, fun h0 => ⟨(h2 h0).1, by have := (h2 h0).2; omega⟩, fun i hi => ⟨(h3 i hi).1, fun h0 => ⟨((h3 i hi).2 h0).1, by have := ((h3 i hi).2 h0).2.1; omega, ((h3 i hi).2 h0).2.2⟩⟩, h4⟩
set_option maxHeartbeats 400000 in
theorem impl_limitedNetwork_1 (v : Value) (l : List Sp) (w : World) (h : Spans w 0 w.heap.size v l) : Calls Try.prog 202 #[v] w (RetX (.bool (B (¬ l.length ≤ 300))) w) := by
  obtain ⟨A, c, rfl, hn, hc⟩ := h.len
  clear h
  go_enter Try.func202, Try.ntmps202
  go_wp2_with fail
  go_ret
  refine ⟨ret_bool (B_eq ?_), (by repeat (first | exact Ext.refl _ | assumption | refine Ext.alloc ?_ _ | refine Ext.drew ?_ | refine Ext.drewN ?_ _ | refine Ext.setCell ?_ (by first | (simp; done) | (simp; omega) | omega) _ | refine Ext.trans ?_ (by assumption)))⟩
  simp only [decide_eq_true_eq]
  omega
set_option maxHeartbeats 1000000 in
theorem impl_limitedNetwork_yes (s k : Value) (n : Net) (w : World) (h : NetIn w s k n) (hl : Lim n) : Calls Try.prog 147 #[.agg #[s, k]] w (RetX (.tuple #[.agg #[s, k], .int .i64 0]) w) := by
  obtain ⟨As, c0, rfl, hns0, hcs0⟩ := h.1.len
  obtain ⟨Ar, c1, rfl, hnk0, hck0⟩ := h.2.len
  have Hc := Lib.hid (fun (w1 : World) (h1 : Sets w1 0 w1.heap.size (.slice As n.sets.length c0) n.sets) => containsFunc_sets (.slice As n.sets.length c0) n.sets 202 #[] (fun i => ¬ (setAt n.sets i).length ≤ 300) w1 h1 Try.call202 (fun i w' u hu _ hx => impl_limitedNetwork_1 u (setAt n.sets i) w' (hu.mono (Nat.le_refl _) hx.size)))
  have Hb := Lib.hid (B_false (fun hh => lim_iff.2 hl hh))
  have H := Lib.hid h
  clear h hl
  go_enter Try.func147, Try.ntmps147
  go_wp2_with fail
  have nb := (Boxed.new w [.slice As n.sets.length c0, .slice Ar n.links.length c1] 27).ext ((Ext.refl _).alloc (.cells #[.slice none 0 0, .slice none 0 0] 27)); have nb0 := nb.at0; have nb1 := nb.at1; have nbg := nb.1; have Hnb := Lib.hid nb; clear nb
  refine Calls.mono (Hc.out _ (H.out.up (by repeat (first | exact Ext.refl _ | assumption | refine Ext.alloc ?_ _ | refine Ext.drew ?_ | refine Ext.drewN ?_ _ | refine Ext.setCell ?_ (by first | (simp; done) | (simp; omega) | omega) _ | refine Ext.trans ?_ (by assumption)))).1) ?_
  rintro e w1 ⟨rfl, hx1⟩
  have hx : Ext w w1 := (by repeat (first | exact Ext.refl _ | assumption | refine Ext.alloc ?_ _ | refine Ext.drew ?_ | refine Ext.drewN ?_ _ | refine Ext.setCell ?_ (by first | (simp; done) | (simp; omega) | omega) _ | refine Ext.trans ?_ (by assumption)))
  rw [Hb.out]
  have hn1 := Hnb.out.ext hx1
  have hr1 : Boxed w1 (w.heap.size + 1) [.slice none 0 0, .slice none 0 0] := by
    have := (Boxed.new (w.alloc (.cells #[.slice As n.sets.length c0, .slice Ar n.links.length c1] 27)) [.slice none 0 0, .slice none 0 0] 27).ext hx1
    rwa [World.size_alloc] at this
  clear nb0 nb1 nbg Hnb
  have nb := hn1; have nb0 := nb.at0; have nb1 := nb.at1; have nbg := nb.1; have Hnb := Lib.hid nb; clear nb
  have rb := hr1; have rb0 := rb.at0; have rb1 := rb.at1; have rbg := rb.1; have Hrb := Lib.hid rb; clear rb
  have rf0 := hr1.fz 0 (by simp)
  have rf1 := hr1.fz 1 (by simp)
  clear hn1 hr1 hx1
  go_wp2_with fail
  refine bodyPost_ret (v := .tuple #[.agg #[.slice As n.sets.length c0, .slice Ar n.links.length c1], .int .i64 0]) (by simp [results, Try.results147, go_sem, *]) rfl ?_
  exact ⟨rfl, (by repeat (first | exact Ext.refl _ | assumption | refine Ext.alloc ?_ _ | refine Ext.drew ?_ | refine Ext.drewN ?_ _ | refine Ext.setCell ?_ (by first | (simp; done) | (simp; omega) | omega) _ | refine Ext.trans ?_ (by assumption)))⟩
set_option maxHeartbeats 1000000 in
theorem impl_limitedNetwork_no (s k : Value) (n : Net) (w : World) (h : NetIn w s k n) (hl : ¬ Lim n) : Calls Try.prog 147 #[.agg #[s, k]] w (RetX (.tuple #[.agg #[.slice none 0 0, .slice none 0 0], .int .i64 3]) w) := by
  have Hc := Lib.hid (fun (w1 : World) (h1 : Sets w1 0 w1.heap.size s n.sets) => containsFunc_sets s n.sets 202 #[] (fun i => ¬ (setAt n.sets i).length ≤ 300) w1 h1 Try.call202 (fun i w' u hu _ hx => impl_limitedNetwork_1 u (setAt n.sets i) w' (hu.mono (Nat.le_refl _) hx.size)))
  have Hb := Lib.hid (B_true (show Some_ n.sets.length (fun i => ¬ (setAt n.sets i).length ≤ 300) from Classical.byContradiction fun hn => hl (lim_iff.1 hn)))
  have H := Lib.hid h
  clear h hl
  go_enter Try.func147, Try.ntmps147
  go_wp2_with fail
  have nb := (Boxed.new w [s, k] 27).ext ((Ext.refl _).alloc (.cells #[.slice none 0 0, .slice none 0 0] 27)); have nb0 := nb.at0; have nb1 := nb.at1; have nbg := nb.1; have Hnb := Lib.hid nb; clear nb
  refine Calls.mono (Hc.out _ (H.out.up (by repeat (first | exact Ext.refl _ | assumption | refine Ext.alloc ?_ _ | refine Ext.drew ?_ | refine Ext.drewN ?_ _ | refine Ext.setCell ?_ (by first | (simp; done) | (simp; omega) | omega) _ | refine Ext.trans ?_ (by assumption)))).1) ?_
  rintro e w1 ⟨rfl, hx1⟩
  have hx : Ext w w1 := (by repeat (first | exact Ext.refl _ | assumption | refine Ext.alloc ?_ _ | refine Ext.drew ?_ | refine Ext.drewN ?_ _ | refine Ext.setCell ?_ (by first | (simp; done) | (simp; omega) | omega) _ | refine Ext.trans ?_ (by assumption)))
  rw [Hb.out]
  have hr1 : Boxed w1 (w.heap.size + 1) [.slice none 0 0, .slice none 0 0] := by
    have := (Boxed.new (w.alloc (.cells #[s, k] 27)) [.slice none 0 0, .slice none 0 0] 27).ext hx1
    rwa [World.size_alloc] at this
  clear nb0 nb1 nbg Hnb
  have rb := hr1; have rb0 := rb.at0; have rb1 := rb.at1; have rbg := rb.1; have Hrb := Lib.hid rb; clear rb
  have rf0 := hr1.fz 0 (by simp)
  have rf1 := hr1.fz 1 (by simp)
  clear hr1 hx1
  go_wp2_with fail
  refine bodyPost_ret (v := .tuple #[.agg #[.slice none 0 0, .slice none 0 0], .int .i64 3]) (by simp [results, Try.results147, go_sem, *]) rfl ?_
  exact ⟨rfl, (by repeat (first | exact Ext.refl _ | assumption | refine Ext.alloc ?_ _ | refine Ext.drew ?_ | refine Ext.drewN ?_ _ | refine Ext.setCell ?_ (by first | (simp; done) | (simp; omega) | omega) _ | refine Ext.trans ?_ (by assumption)))⟩
set_option maxHeartbeats 1000000 in
theorem spec_l19Result_yes (s k : Value) (n : Net) (w : World) (h : NetIn w s k n) (hd : NetD n) (hl : Lim n) : Calls Try.prog 148 #[.agg #[s, k]] w (RetX (.tuple #[.agg #[s, k], .int .i64 0]) w) := by
  obtain ⟨As, c0, rfl, hns0, hcs0⟩ := h.1.len
  obtain ⟨Ar, c1, rfl, hnk0, hck0⟩ := h.2.len
  have Hb := Lib.hid (B_true ((netOk_iff hd).2 hl))
  have H := Lib.hid h
  clear h hl hd
  go_enter Try.func148, Try.ntmps148
  go_wp2_with fail
  have nb := (Boxed.new w [.slice As n.sets.length c0, .slice Ar n.links.length c1] 27).ext ((Ext.refl _).alloc (.cells #[.slice none 0 0, .slice none 0 0] 27)); have nb0 := nb.at0; have nb1 := nb.at1; have nbg := nb.1; have Hnb := Lib.hid nb; clear nb
  refine Calls.mono (spec_IsNetwork _ _ n _ (H.out.up (by repeat (first | exact Ext.refl _ | assumption | refine Ext.alloc ?_ _ | refine Ext.drew ?_ | refine Ext.drewN ?_ _ | refine Ext.setCell ?_ (by first | (simp; done) | (simp; omega) | omega) _ | refine Ext.trans ?_ (by assumption))))) ?_
  rintro e w1 ⟨rfl, hx1⟩
  have hx : Ext w w1 := (by repeat (first | exact Ext.refl _ | assumption | refine Ext.alloc ?_ _ | refine Ext.drew ?_ | refine Ext.drewN ?_ _ | refine Ext.setCell ?_ (by first | (simp; done) | (simp; omega) | omega) _ | refine Ext.trans ?_ (by assumption)))
  rw [Hb.out]
  have hn1 := Hnb.out.ext hx1
  have hr1 : Boxed w1 (w.heap.size + 1) [.slice none 0 0, .slice none 0 0] := by
    have := (Boxed.new (w.alloc (.cells #[.slice As n.sets.length c0, .slice Ar n.links.length c1] 27)) [.slice none 0 0, .slice none 0 0] 27).ext hx1
    rwa [World.size_alloc] at this
  clear nb0 nb1 nbg Hnb
  have nb := hn1; have nb0 := nb.at0; have nb1 := nb.at1; have nbg := nb.1; have Hnb := Lib.hid nb; clear nb
  have rb := hr1; have rb0 := rb.at0; have rb1 := rb.at1; have rbg := rb.1; have Hrb := Lib.hid rb; clear rb
  have rf0 := hr1.fz 0 (by simp)
  have rf1 := hr1.fz 1 (by simp)
  clear hn1 hr1 hx1
  go_wp2_with fail
  refine bodyPost_ret (v := .tuple #[.agg #[.slice As n.sets.length c0, .slice Ar n.links.length c1], .int .i64 0]) (by simp [results, Try.results148, go_sem, *]) rfl ?_
  exact ⟨rfl, (by repeat (first | exact Ext.refl _ | assumption | refine Ext.alloc ?_ _ | refine Ext.drew ?_ | refine Ext.drewN ?_ _ | refine Ext.setCell ?_ (by first | (simp; done) | (simp; omega) | omega) _ | refine Ext.trans ?_ (by assumption)))⟩
set_option maxHeartbeats 1000000 in
theorem spec_l19Result_no (s k : Value) (n : Net) (w : World) (h : NetIn w s k n) (hd : NetD n) (hl : ¬ Lim n) : Calls Try.prog 148 #[.agg #[s, k]] w (RetX (.tuple #[.agg #[.slice none 0 0, .slice none 0 0], .int .i64 3]) w) := by
  have Hb := Lib.hid (B_false (fun hh => hl ((netOk_iff hd).1 hh)))
  have H := Lib.hid h
  clear h hl hd
  go_enter Try.func148, Try.ntmps148
  go_wp2_with fail
  refine Calls.mono (spec_IsNetwork s k n _ (H.out.up (by repeat (first | exact Ext.refl _ | assumption | refine Ext.alloc ?_ _ | refine Ext.drew ?_ | refine Ext.drewN ?_ _ | refine Ext.setCell ?_ (by first | (simp; done) | (simp; omega) | omega) _ | refine Ext.trans ?_ (by assumption))))) ?_
  rintro e w1 ⟨rfl, hx1⟩
  have hx : Ext w w1 := (by repeat (first | exact Ext.refl _ | assumption | refine Ext.alloc ?_ _ | refine Ext.drew ?_ | refine Ext.drewN ?_ _ | refine Ext.setCell ?_ (by first | (simp; done) | (simp; omega) | omega) _ | refine Ext.trans ?_ (by assumption)))
  rw [Hb.out]
  have hr1 : Boxed w1 (w.heap.size + 1) [.slice none 0 0, .slice none 0 0] := by
    have := (Boxed.new (w.alloc (.cells #[s, k] 27)) [.slice none 0 0, .slice none 0 0] 27).ext hx1
    rwa [World.size_alloc] at this
  have rb := hr1; have rb0 := rb.at0; have rb1 := rb.at1; have rbg := rb.1; have Hrb := Lib.hid rb; clear rb
  have rf0 := hr1.fz 0 (by simp)
  have rf1 := hr1.fz 1 (by simp)
  clear hr1 hx1
  go_wp2_with fail
  refine bodyPost_ret (v := .tuple #[.agg #[.slice none 0 0, .slice none 0 0], .int .i64 3]) (by simp [results, Try.results148, go_sem, *]) rfl ?_
  exact ⟨rfl, (by repeat (first | exact Ext.refl _ | assumption | refine Ext.alloc ?_ _ | refine Ext.drew ?_ | refine Ext.drewN ?_ _ | refine Ext.setCell ?_ (by first | (simp; done) | (simp; omega) | omega) _ | refine Ext.trans ?_ (by assumption)))⟩
set_option maxRecDepth 100000 in
set_option maxHeartbeats 4000000 in
theorem impl_narrowRound (s k : Value) (n : Net) (lo a b : Nat) (w : World) (h : NetS 60 w lo a b s k n) (hn : NetD n) :
    Calls Try.prog 151 #[.agg #[s, k]] w (fun e w' => e = .returned (.tuple #[]) ∧ Off (fun x => a ≤ x ∧ x < b) w w' ∧ NetS 60 w' lo a w'.heap.size s k (narR n)) := by
  obtain ⟨As, cs, rfl, hns, hcs⟩ := h.netIn.1.len
  obtain ⟨Ak, ck, rfl, hnk, hck⟩ := h.netIn.2.len
  have Hsb := Lib.hid (fun (h0 : 0 < n.sets.length) (x : Nat) (hh : (Value.slice As n.sets.length cs).ownBlock = some x) => show a ≤ x ∧ x < b by
    obtain ⟨g0, off, z, rfl, h1, h2, _⟩ := h.cell h0
    have hg : g0 = x := by injection hh
    omega)
  have H := Lib.hid h
  have Hd := Lib.hid hn
  have h20 := hn.nl
  clear h hn
  go_enter Try.func151, Try.ntmps151
  go_wp2_with fail
  go_loopg [7] n.links.length (fun q i wr => ∃ (j b1 : Nat), j + q = n.links.length ∧ i = .int .i64 j ∧ Hid (Off (fun x => a ≤ x ∧ x < b) w wr) ∧ Boxed wr w.heap.size [.slice As n.sets.length cs, .slice Ak n.links.length ck] ∧ Hid (NetS 60 wr lo a b1 (.slice As n.sets.length cs) (.slice Ak n.links.length ck) (narTo n n.links j)))
  case atStart => exact ⟨0, b, by omega, rfl, Lib.hid (Off.of_ext (by repeat (first | exact Ext.refl _ | assumption | refine Ext.alloc ?_ _ | refine Ext.drew ?_ | refine Ext.drewN ?_ _ | refine Ext.setCell ?_ (by first | (simp; done) | (simp; omega) | omega) _ | refine Ext.trans ?_ (by assumption)))), Boxed.new w _ _, Lib.hid (H.out.ext (by repeat (first | exact Ext.refl _ | assumption | refine Ext.alloc ?_ _ | refine Ext.drew ?_ | refine Ext.drewN ?_ _ | refine Ext.setCell ?_ (by first | (simp; done) | (simp; omega) | omega) _ | refine Ext.trans ?_ (by assumption))))⟩
  case round =>
    obtain ⟨j, b', hj, rfl, Hx, hnb, HS⟩ := hrel
    have nb := hnb; have nb0 := nb.at0; have nb1 := nb.at1; have nbg := nb.1; have Hnb := Lib.hid nb; clear nb
    clear hnb
    by_cases hlt : j < n.links.length
    · have hok := narTo_ok Hd.out Hd.out.lks j (by omega)
      have hln : (narTo n n.links j).links = n.links := hok.2.lk
      have Hok := Lib.hid hok
      have HL := Lib.hid (show Links wr 0 wr.heap.size (.slice Ak n.links.length ck) n.links from by have := HS.out.netIn.2; rwa [hln] at this)
      obtain ⟨bl, off, rfl, _, hbl, c1, c2, c3, c4⟩ := HL.out.at_ hlt
      have Hlk0 := Lib.hid (Hd.out.lks j hlt)
      have Hlk := Lib.hid (show LkOk (lkAt n.links j) (narTo n n.links j).sets.length from by rw [hok.2.ns]; exact Hd.out.lks j hlt)
      clear hok hln
      go_wp2_with fail
      have hxa : Ext wr (wr.alloc (.cells #[.int .i64 (lkAt n.links j).be, .int .i64 (lkAt n.links j).af, .int .i64 (lkAt n.links j).le, .int .i64 (lkAt n.links j).mo] 60)) := (by repeat (first | exact Ext.refl _ | assumption | refine Ext.alloc ?_ _ | refine Ext.drew ?_ | refine Ext.drewN ?_ _ | refine Ext.setCell ?_ (by first | (simp; done) | (simp; omega) | omega) _ | refine Ext.trans ?_ (by assumption)))
      refine Calls.mono (impl_narrowLink _ _ (narTo n n.links j) (lkAt n.links j) lo a b' _ (HS.out.ext hxa) Hok.out.1 Hlk.out) ?_
      rintro e w3 ⟨rfl, hO3, hS3⟩
      have hO3' : Off (fun x => a ≤ x ∧ x < b) _ w3 := hO3.mono (fun x hh => Hsb.out (by obtain ⟨⟨x1, x2⟩, _⟩ := Hlk0.out; omega) x hh)
      have hO := (Hx.out.trans (Off.of_ext hxa)).trans hO3'
      have hb3 := (Hnb.out.ext hxa).off hO3' (fun hh => by have := H.out.bw; omega)
      clear c1 c2 c3 c4 nb0 nb1 nbg
      go_wp2_with fail
      go_roundg (n.links.length - (j + 1))
      case measure => omega
      case rel => exact ⟨j + 1, _, by omega, by go_num, Lib.hid hO, hb3, Lib.hid hS3⟩
    · obtain rfl : j = n.links.length := by omega
      go_wp2_with fail
      go_end0
      exact ⟨rfl, Hx.out, ⟨HS.out.la, by have := HS.out.ab; have := HS.out.bw; omega, Nat.le_refl _, HS.out.sets.wide HS.out.bw, HS.out.links, HS.out.lk⟩⟩
theorem NetS.wide {T : TypeId} {w : World} {lo a b : Nat} {s k : Value} {n : Net} (h : NetS T w lo a b s k n) : NetS T w lo a w.heap.size s k n :=
  ⟨h.la, by have := h.ab; have := h.bw; omega, Nat.le_refl _, h.sets.wide h.bw, h.links, h.lk⟩
theorem NetS.of2 {T : TypeId} {n : Net} {w : World} {e : Ending} {w' : World} (h : NewNetL T n w e w') : ∃ A c A' c' a b, e = .returned (.agg #[.slice A n.sets.length c, .slice A' n.links.length c']) ∧ Ext w w' ∧ NetS T w' w.heap.size a b (.slice A n.sets.length c) (.slice A' n.links.length c') n := by
  obtain ⟨s, k, a, b, rfl, h1, h2⟩ := NetS.of h
  obtain ⟨A, c, rfl, _, _⟩ := h2.netIn.1.len
  obtain ⟨A', c', rfl, _, _⟩ := h2.netIn.2.len
  exact ⟨A, c, A', c', a, b, rfl, h1, h2⟩
theorem off_two (r : Nat) (w : World) (u v : Value) : Off (fun x => x = r) w ((w.setCell ⟨r, 0, none⟩ u).setCell ⟨r, 1, none⟩ v) :=
  Off.setCell (S := fun x => x = r) (p := ⟨r, 1, none⟩) (Off.setCell (S := fun x => x = r) (p := ⟨r, 0, none⟩) (Off.refl _ _) (.inl rfl) _) (.inl rfl) _
/-- a box r of the call's own is written -/
theorem NetS.stored {T : TypeId} {n : Net} {w : World} {lo a b r : Nat} {s k u v : Value} (h : NetS T w lo a b s k n) (hr : r < lo) : NetS T ((w.setCell ⟨r, 0, none⟩ u).setCell ⟨r, 1, none⟩ v) lo a b s k n :=
  h.off (off_two r w u v) (fun x hx => .inl ⟨by have := h.la; omega, fun hh => by have := (h.links.lt _ hh).1; omega⟩)
theorem Ext.stored {w w' : World} {r : Nat} {u v : Value} (h : Ext w w') (hr : w.heap.size ≤ r) : Ext w ((w'.setCell ⟨r, 0, none⟩ u).setCell ⟨r, 1, none⟩ v) :=
  h.off (off_two r w' u v) (fun x hx hh => by omega)
theorem NetS.fin2 {T : TypeId} {n : Net} {w w' : World} {lo a b r : Nat} {s k : Value} (c : Int) (hx : Ext w w') (hr : w.heap.size ≤ r) (hlo : r < lo) (h : NetS T w' lo a b s k n) :
    NewNet2 n c w (.returned (.tuple #[.agg #[s, k], .int .i64 c])) ((w'.setCell ⟨r, 0, none⟩ s).setCell ⟨r, 1, none⟩ k) :=
  ⟨s, k, rfl, hx.stored hr, ((h.mono (lo' := w.heap.size) (by omega)).off (off_two r w' s k) (fun x hx => .inl ⟨by have := h.la; omega, fun hh => by have := (h.links.lt _ hh).1; omega⟩)).own⟩
end Go.Proofs.Ytfajmlkiidnhlaa

/- Contract: l19Round. -/
namespace Go.Proofs.Ytfajmlkiidnhlaa
set_option linter.unusedVariables false
set_option linter.unusedSimpArgs false
open Go.RowKit
attribute [local go_sem] cell_onto
set_option maxRecDepth 100000 in
set_option maxHeartbeats 16000000 in
theorem spec_l19Round (s k : Value) (n : Net) (w : World) (h : NetIn w s k n) (hn : NetD n) :
    Calls Try.prog 154 #[.agg #[s, k]] w (NewNetL 60 (narR n) w) := by
  obtain ⟨As, c0, rfl, hns0, hcs0⟩ := h.1.len
  obtain ⟨Ar, c1, rfl, hnk0, hck0⟩ := h.2.len
  have Hsm := Lib.hid hn.small
  have Hd := Lib.hid hn
  have H := Lib.hid h
  have h20 := hn.nl
  clear h hn
  obtain ⟨w0, hw0⟩ : ∃ x : World, x = (w.alloc (.cells #[.slice As n.sets.length c0, .slice Ar n.links.length c1] 27)).alloc (.cells #[.slice none 0 0, .slice none 0 0] 27) := ⟨_, rfl⟩
  have hz0 : w0.heap.size = w.heap.size + 1 + 1 := by rw [hw0]; simp
  have Hx0 : Hid (Ext w w0) := Lib.hid (by rw [hw0]; exact (by repeat (first | exact Ext.refl _ | assumption | refine Ext.alloc ?_ _ | refine Ext.drew ?_ | refine Ext.drewN ?_ _ | refine Ext.setCell ?_ (by first | (simp; done) | (simp; omega) | omega) _ | refine Ext.trans ?_ (by assumption))))
  have Hnb : Hid (Boxed w0 w.heap.size [.slice As n.sets.length c0, .slice Ar n.links.length c1]) := Lib.hid (by
    rw [hw0]
    exact (Boxed.new w [.slice As n.sets.length c0, .slice Ar n.links.length c1] 27).ext ((Ext.refl _).alloc _))
  have Hrb : Hid (Boxed w0 (w.heap.size + 1) [.slice none 0 0, .slice none 0 0]) := Lib.hid (by
    have := Boxed.new (w.alloc (.cells #[.slice As n.sets.length c0, .slice Ar n.links.length c1] 27)) [.slice none 0 0, .slice none 0 0] 27
    rw [World.size_alloc] at this
    rw [hw0]
    exact this)
  have Hw0 := Lib.hid hw0
  clear hw0
  go_enter Try.func154, Try.ntmps154
  go_wp2_with fail
  rw [← Hw0.out]
  refine Calls.mono (spec_l18Own _ _ n _ (H.out.up Hx0.out) Hsm.out) ?_
  rintro e w3 hnew
  obtain ⟨so, ko, a, b, rfl, hx3, hS3⟩ := NetS.of hnew
  obtain ⟨Ao, co, rfl, hns3, hcs3⟩ := hS3.netIn.1.len
  obtain ⟨Aq, cq, rfl, hnk3, hck3⟩ := hS3.netIn.2.len
  have hz3 := hx3.size
  have hxb : Ext w3 (w3.alloc (.cells #[.slice Ao n.sets.length co, .slice Aq n.links.length cq] 27)) := (by repeat (first | exact Ext.refl _ | assumption | refine Ext.alloc ?_ _ | refine Ext.drew ?_ | refine Ext.drewN ?_ _ | refine Ext.setCell ?_ (by first | (simp; done) | (simp; omega) | omega) _ | refine Ext.trans ?_ (by assumption)))
  have hbo := Boxed.new w3 [.slice Ao n.sets.length co, .slice Aq n.links.length cq] 27
  have Hst := Lib.hid (show ∃ (a b : Nat) (s' k' : Value), Ext w (w3.alloc (.cells #[.slice Ao n.sets.length co, .slice Aq n.links.length cq] 27)) ∧ Boxed (w3.alloc (.cells #[.slice Ao n.sets.length co, .slice Aq n.links.length cq] 27)) w.heap.size [.slice As n.sets.length c0, .slice Ar n.links.length c1] ∧ Boxed (w3.alloc (.cells #[.slice Ao n.sets.length co, .slice Aq n.links.length cq] 27)) (w.heap.size + 1) [.slice none 0 0, .slice none 0 0] ∧ Boxed (w3.alloc (.cells #[.slice Ao n.sets.length co, .slice Aq n.links.length cq] 27)) w3.heap.size [s', k'] ∧ NetS 60 (w3.alloc (.cells #[.slice Ao n.sets.length co, .slice Aq n.links.length cq] 27)) w0.heap.size a b s' k' (narTo n n.links 0) from
    ⟨a, b, _, _, (Hx0.out.trans hx3).trans hxb, (Hnb.out.ext hx3).ext hxb, (Hrb.out.ext hx3).ext hxb, hbo, hS3.ext hxb⟩)
  clear hx3 hS3 hxb hbo hnew Hnb Hrb Hw0
  go_wp2_with fail
  go_loopg [4] n.links.length (fun q i wr => ∃ (j : Nat), j + q = n.links.length ∧ i = .int .i64 j ∧ Hid (∃ (a b : Nat) (s' k' : Value), Ext w wr ∧ Boxed wr w.heap.size [.slice As n.sets.length c0, .slice Ar n.links.length c1] ∧ Boxed wr (w.heap.size + 1) [.slice none 0 0, .slice none 0 0] ∧ Boxed wr w3.heap.size [s', k'] ∧ NetS 60 wr w0.heap.size a b s' k' (narTo n n.links j)))
  case atStart => exact ⟨0, by omega, rfl, Hst⟩
  clear Hst
  case round =>
    obtain ⟨j, hj, rfl, Hst⟩ := hrel
    obtain ⟨a', b', s', k', hx, hnb, hrb, hob, hS⟩ := Hst.out
    have HS := Lib.hid hS
    have Hrb := Lib.hid hrb
    have nb := hnb; have nb0 := nb.at0; have nb1 := nb.at1; have nbg := nb.1; have Hnb := Lib.hid nb; clear nb
    have ob := hob; have ob0 := ob.at0; have ob1 := ob.at1; have obg := ob.1; have Hob := Lib.hid ob; clear ob
    clear hnb hob hS hrb Hst
    by_cases hlt : j < n.links.length
    · have hok := narTo_ok Hd.out Hd.out.lks j (by omega)
      have Hok := Lib.hid hok
      obtain ⟨bl, off, rfl, _, hbl, q1, q2, q3, q4⟩ := (H.out.2.ext hx (Nat.le_refl _)).at_ hlt
      have hbr : bl < wr.heap.size := Nat.lt_of_lt_of_le hbl hx.size
      have Hlk := Lib.hid (show LkOk (lkAt n.links j) (narTo n n.links j).sets.length from by rw [hok.2.ns]; exact Hd.out.lks j hlt)
      clear hok
      go_wp2_with fail
      go_region_law (first
        | (go_simp; go_at_call 149; refine Calls.mono (spec_l19Link s' k' (narTo n n.links j) (lkAt n.links j) _ (HS.out.netIn.up (by repeat (first | exact Ext.refl _ | assumption | refine Ext.alloc ?_ _ | refine Ext.drew ?_ | refine Ext.drewN ?_ _ | refine Ext.setCell ?_ (by first | (simp; done) | (simp; omega) | omega) _ | refine Ext.trans ?_ (by assumption)))) Hok.out.1 Hlk.out) ?_; rintro e w4 hnew4; obtain ⟨s4, k4, a4, b4, rfl, hx4, hS4⟩ := NetS.of hnew4; obtain ⟨A4, c4, rfl, _, _⟩ := hS4.netIn.1.len; obtain ⟨A5, c5, rfl, _, _⟩ := hS4.netIn.2.len; have hS5 : NetS 60 w4 wr.heap.size a4 b4 (.slice A4 (narTo n n.links (j + 1)).sets.length c4) (.slice A5 (narTo n n.links (j + 1)).links.length c5) (narTo n n.links (j + 1)) := hS4.mono (by first | exact Nat.le_refl _ | simp); have hxw : Ext wr w4 := (by repeat (first | exact Ext.refl _ | assumption | refine Ext.alloc ?_ _ | refine Ext.drew ?_ | refine Ext.drewN ?_ _ | refine Ext.setCell ?_ (by first | (simp; done) | (simp; omega) | omega) _ | refine Ext.trans ?_ (by assumption))); have HS5 := Lib.hid hS5; have xb := Hob.out.ext hxw; have xb0 := xb.at0; have xb1 := xb.at1; have xbg := xb.1; have Hxb := Lib.hid xb; clear xb; have xf0 := Hxb.out.fz 0 (by simp); have xf1 := Hxb.out.fz 1 (by simp); clear hx4 hS4 hS5 hnew4))
      all_goals
        have hz4 := hxw.size
        have hx4 := hx.trans hxw
        have hO : Off (fun k => k = w3.heap.size) w4 ((w4.setCell ⟨w3.heap.size, 0, none⟩ (.slice A4 (narTo n n.links (j + 1)).sets.length c4)).setCell ⟨w3.heap.size, 1, none⟩ (.slice A5 (narTo n n.links (j + 1)).links.length c5)) :=
          Off.setCell (S := fun k => k = w3.heap.size) (p := ⟨w3.heap.size, 1, none⟩) (Off.setCell (S := fun k => k = w3.heap.size) (p := ⟨w3.heap.size, 0, none⟩) (Off.refl _ _) (.inl rfl) _) (.inl rfl) _
        have Hfin := Lib.hid (show ∃ (a b : Nat) (s' k' : Value), Ext w ((w4.setCell ⟨w3.heap.size, 0, none⟩ (.slice A4 (narTo n n.links (j + 1)).sets.length c4)).setCell ⟨w3.heap.size, 1, none⟩ (.slice A5 (narTo n n.links (j + 1)).links.length c5)) ∧ Boxed ((w4.setCell ⟨w3.heap.size, 0, none⟩ (.slice A4 (narTo n n.links (j + 1)).sets.length c4)).setCell ⟨w3.heap.size, 1, none⟩ (.slice A5 (narTo n n.links (j + 1)).links.length c5)) w.heap.size [.slice As n.sets.length c0, .slice (some ⟨bl, off, none⟩) n.links.length c1] ∧ Boxed ((w4.setCell ⟨w3.heap.size, 0, none⟩ (.slice A4 (narTo n n.links (j + 1)).sets.length c4)).setCell ⟨w3.heap.size, 1, none⟩ (.slice A5 (narTo n n.links (j + 1)).links.length c5)) (w.heap.size + 1) [.slice none 0 0, .slice none 0 0] ∧ Boxed ((w4.setCell ⟨w3.heap.size, 0, none⟩ (.slice A4 (narTo n n.links (j + 1)).sets.length c4)).setCell ⟨w3.heap.size, 1, none⟩ (.slice A5 (narTo n n.links (j + 1)).links.length c5)) w3.heap.size [s', k'] ∧ NetS 60 ((w4.setCell ⟨w3.heap.size, 0, none⟩ (.slice A4 (narTo n n.links (j + 1)).sets.length c4)).setCell ⟨w3.heap.size, 1, none⟩ (.slice A5 (narTo n n.links (j + 1)).links.length c5)) w0.heap.size a b s' k' (narTo n n.links (j + 1)) from
          ⟨a4, b4, _, _, hx4.off hO (fun k hk hh => by omega), (Hnb.out.ext hxw).off hO (by omega), (Hrb.out.ext hxw).off hO (by omega), (Hxb.out.set 0 _ (by simp)).set 1 _ (by simp),
            (HS5.out.mono (by have := Hob.out.1; omega)).off hO (fun x hx => .inl ⟨by have := HS5.out.la; have := Hob.out.1; omega, fun hh => by have := (HS5.out.links.lt _ hh).1; have := Hob.out.1; omega⟩)⟩)
        clear hO hx4 hxw
        go_wp2_with fail
        go_roundg (n.links.length - (j + 1))
        case measure => omega
        case rel => exact ⟨j + 1, by omega, by go_num, Hfin⟩
    · obtain rfl : j = n.links.length := by omega
      obtain ⟨A4, c4, rfl, _, _⟩ := HS.out.netIn.1.len
      obtain ⟨A5, c5, rfl, _, _⟩ := HS.out.netIn.2.len
      have rb := Hrb.out; have rb0 := rb.at0; have rb1 := rb.at1; have rbg := rb.1; have Hrb := Lib.hid rb; clear rb
      have rf0 := Hrb.out.fz 0 (by simp)
      have rf1 := Hrb.out.fz 1 (by simp)
      go_wp2_with fail
      refine bodyPost_ret (v := .agg #[.slice A4 (narTo n n.links n.links.length).sets.length c4, .slice A5 (narTo n n.links n.links.length).links.length c5]) (by simp [results, Try.results154, go_sem, *]) rfl ?_
      have hO : Off (fun k => k = w.heap.size + 1) wr ((wr.setCell ⟨w.heap.size + 1, 0, none⟩ (.slice A4 (narTo n n.links n.links.length).sets.length c4)).setCell ⟨w.heap.size + 1, 1, none⟩ (.slice A5 (narTo n n.links n.links.length).links.length c5)) :=
        Off.setCell (S := fun k => k = w.heap.size + 1) (p := ⟨w.heap.size + 1, 1, none⟩) (Off.setCell (S := fun k => k = w.heap.size + 1) (p := ⟨w.heap.size + 1, 0, none⟩) (Off.refl _ _) (.inl rfl) _) (.inl rfl) _
      refine NetS.to (hx.off hO (fun k hk hh => by omega)) ((HS.out.mono (by omega)).off hO (fun x hx => .inl ⟨by have := HS.out.la; omega, fun hh => ?_⟩))
      have := (HS.out.links.lt _ hh).1
      omega
end Go.Proofs.Ytfajmlkiidnhlaa
