/- Texts merged (a claim holds at most sixty files): Pe, Pg, Nl, Nk. -/
import Derived.Test.YtfajmlkiidnhlaaGreatQ3Us
import Derived.Test.YtfajmlkiidnhlaaGreatQ3Mu
import Derived.Test.YtfajmlkiidnhlaaGreatQ3G
import Derived.Deep.RegionHeld3
import Derived.Test.YtfajmlkiidnhlaaGreatQ3Up
import Derived.Test.YtfajmlkiidnhlaaGreatQ3V
/- Contract: l19Partner. -/
namespace Go.Proofs.YtfajmlkiidnhlaaGreat
set_option linter.unusedVariables false
set_option linter.unusedSimpArgs false
open Go.RowKit
attribute [local go_sem] cell_onto
end Go.Proofs.YtfajmlkiidnhlaaGreat

/- Contracts: checkLink, limited, PartnerDays, and the reference's. -/
namespace Go.Proofs.YtfajmlkiidnhlaaGreat
set_option linter.unusedVariables false
set_option linter.unusedSimpArgs false
open Go.RowKit
attribute [local go_sem] cell_onto

/-- two results: spans of the call's own, and a code -/
def NewSps2 (l : List Sp) (e0 : Int) (w : World) (e : Ending) (w' : World) : Prop :=
  ∃ v g, e = .returned (.tuple #[v, .int .i64 e0]) ∧ Ext w w' ∧ (0 < l.length → w.heap.size ≤ g) ∧ Own w' g 2 v l.length (spanCell l)
theorem NewSps2.nil (e0 : Int) {w w' : World} (h : Ext w w') : NewSps2 [] e0 w (.returned (.tuple #[.slice none 0 0, .int .i64 e0])) w' :=
  ⟨_, 0, rfl, h, fun h => absurd h (by simp), Nat.zero_le _, none, 0, rfl, Nat.le_refl _, fun h => absurd h (by simp)⟩
theorem NewSps2.of {T : TypeId} {l : List Sp} {e0 : Int} {w w' : World} {v : Value} (h : Ext w w') (hr : w'.ownsRow w.heap.size T 2 v l.length (cellsOf (l.length * 2) (spanCell l))) : NewSps2 l e0 w (.returned (.tuple #[v, .int .i64 e0])) w' := by
  obtain ⟨g, hg, ho⟩ := Own.of_owned hr
  exact ⟨v, g, rfl, h, fun hn => (hg hn).2, ho⟩
noncomputable def lnkE (n : Net) (i : Int) : Int := bif B (NetOk n) then (bif B (0 ≤ i ∧ i ≤ (n.links.length : Int) - 1) then 0 else 2) else 1
theorem lnk_net {n : Net} {i : Int} (h : ¬ NetOk n) : lnkE n i = 1 := by unfold lnkE; rw [B_false h]; rfl
theorem lnk_no {n : Net} {i : Int} (h : NetOk n) (h2 : ¬ (0 ≤ i ∧ i ≤ (n.links.length : Int) - 1)) : lnkE n i = 2 := by unfold lnkE; rw [B_true h, B_false h2]; rfl
theorem lnk_ok {n : Net} {i : Int} (h : NetOk n) (h2 : 0 ≤ i ∧ i ≤ (n.links.length : Int) - 1) : lnkE n i = 0 := by unfold lnkE; rw [B_true h, B_true h2]; rfl
theorem lnk_zero {n : Net} {i : Int} (h : lnkE n i = 0) : NetOk n ∧ 0 ≤ i ∧ i ≤ (n.links.length : Int) - 1 := by
  by_cases h1 : NetOk n
  · by_cases h2 : 0 ≤ i ∧ i ≤ (n.links.length : Int) - 1
    · exact ⟨h1, h2⟩
    · rw [lnk_no h1 h2] at h; omega
  · rw [lnk_net h1] at h; omega
noncomputable def pdE (n : Net) (i : Int) (o : Bool) : Int := bif B (lnkE n i = 0) then (bif B ((partN n (lkAt n.links i.toNat) o).length ≤ 300) then 0 else 3) else lnkE n i
noncomputable def pdL (n : Net) (i : Int) (o : Bool) : List Sp := bif B (pdE n i o = 0) then partN n (lkAt n.links i.toNat) o else []
theorem pd_no {n : Net} {i : Int} {o : Bool} (h : lnkE n i ≠ 0) : pdE n i o = lnkE n i ∧ pdL n i o = [] := by
  have e : pdE n i o = lnkE n i := by unfold pdE; rw [B_false h]; rfl
  exact ⟨e, by unfold pdL; rw [B_false (by rw [e]; exact h)]; rfl⟩
theorem pd_big {n : Net} {i : Int} {o : Bool} (h : lnkE n i = 0) (h2 : ¬ (partN n (lkAt n.links i.toNat) o).length ≤ 300) : pdE n i o = 3 ∧ pdL n i o = [] := by
  have e : pdE n i o = 3 := by unfold pdE; rw [B_true h, B_false h2]; rfl
  exact ⟨e, by unfold pdL; rw [B_false (by rw [e]; omega)]; rfl⟩
theorem pd_ok {n : Net} {i : Int} {o : Bool} (h : lnkE n i = 0) (h2 : (partN n (lkAt n.links i.toNat) o).length ≤ 300) : pdE n i o = 0 ∧ pdL n i o = partN n (lkAt n.links i.toNat) o := by
  have e : pdE n i o = 0 := by unfold pdE; rw [B_true h, B_true h2]; rfl
  exact ⟨e, by unfold pdL; rw [B_true e]; rfl⟩
theorem partN_ok {n : Net} {l : Lk} {o : Bool} (h : PartIn n l) : SetD (partN n l o) := by
  have hbe := h.be
  have haf := h.af
  have h1 := h.sets l.be.toNat (by omega)
  have h2 := h.sets l.af.toNat (by omega)
  have h3 := h.lm
  cases o
  · exact (partL_ok (lo := -l.mo) (hi := -l.le) h1 h2.fromTo (by omega)).1
  · exact (partL_ok (lo := l.le) (hi := l.mo) h2 h1.fromTo (by omega)).1
theorem pdL_small (n : Net) (i : Int) (o : Bool) : (pdL n i o).length ≤ 1048576 := by
  by_cases h : lnkE n i = 0
  · by_cases h2 : (partN n (lkAt n.links i.toNat) o).length ≤ 300
    · rw [(pd_ok h h2).2]; omega
    · rw [(pd_big h h2).2]; simp
  · rw [(pd_no h).2]; simp
theorem impl_limited_yes (A : Option Addr) (m c : Nat) (w : World) (h : m ≤ 300) : Calls Tryz.prog 71 #[.slice A m c] w (RetS (.tuple #[.slice A m c, .int .i64 0]) w) := by
  have T1 : decide ((300 : Int) < (m : Int)) = false := decide_eq_false (by omega)
  have T2 : decide (300 < m) = false := decide_eq_false (by omega)
  go_enter Tryz.func71, Tryz.ntmps71
  go_wp2_with fail
  go_ret2
  exact ⟨rfl, rfl⟩
theorem impl_limited_no (A : Option Addr) (m c : Nat) (w : World) (hm : m ≤ 9223372036854775807) (h : ¬ m ≤ 300) : Calls Tryz.prog 71 #[.slice A m c] w (RetS (.tuple #[.slice none 0 0, .int .i64 3]) w) := by
  have T1 : decide ((300 : Int) < (m : Int)) = true := decide_eq_true (by omega)
  have T2 : decide (300 < m) = true := decide_eq_true (by omega)
  go_enter Tryz.func71, Tryz.ntmps71
  go_wp2_with fail
  go_ret2
  exact ⟨rfl, rfl⟩
theorem spec_l02Result_yes (A : Option Addr) (m c : Nat) (w : World) (h : m ≤ 300) : Calls Tryz.prog 74 #[.slice A m c] w (RetS (.tuple #[.slice A m c, .int .i64 0]) w) := by
  have T1 : decide ((300 : Int) < (m : Int)) = false := decide_eq_false (by omega)
  have T2 : decide (300 < m) = false := decide_eq_false (by omega)
  go_enter Tryz.func74, Tryz.ntmps74
  go_wp2_with fail
  go_ret2
  exact ⟨rfl, rfl⟩
theorem spec_l02Result_no (A : Option Addr) (m c : Nat) (w : World) (hm : m ≤ 9223372036854775807) (h : ¬ m ≤ 300) : Calls Tryz.prog 74 #[.slice A m c] w (RetS (.tuple #[.slice none 0 0, .int .i64 3]) w) := by
  have T1 : decide ((300 : Int) < (m : Int)) = true := decide_eq_true (by omega)
  have T2 : decide (300 < m) = true := decide_eq_true (by omega)
  go_enter Tryz.func74, Tryz.ntmps74
  go_wp2_with fail
  go_ret2
  exact ⟨rfl, rfl⟩
end Go.Proofs.YtfajmlkiidnhlaaGreat

/- Contracts: narrowLink of a network that is changed, and l19Link. -/
namespace Go.Proofs.YtfajmlkiidnhlaaGreat
set_option linter.unusedVariables false
set_option linter.unusedSimpArgs false
open Go.RowKit
attribute [local go_sem] cell_onto

theorem Ext.and_fz {w w' : World} {g i : Nat} {c : Bool} {r : Prop} (hg : g < w.heap.size) (hc : w.frozen? ⟨g, i, none⟩ = c) (hx : Ext w w') (hr : r) : w'.frozen? ⟨g, i, none⟩ = c ∧ r :=
  ⟨(hx.frozen (p := ⟨g, i, none⟩) hg).trans hc, hr⟩
theorem Off.and_cell {S : Nat → Prop} {w w' : World} {g i : Nat} {c : Value} {r : Prop} (hg : g < w.heap.size) (hs : ¬ S g) (hc : w.cell? ⟨g, i, none⟩ = some c) (hx : Off S w w') (hr : r) : w'.cell? ⟨g, i, none⟩ = some c ∧ r :=
  ⟨(hx.cell (p := ⟨g, i, none⟩) hg hs).trans hc, hr⟩
theorem Off.put_ {g0 o : Nat} {a w : World} {u : Value} (h : Ext a w) : Off (fun x => x = g0) a (w.setCell ⟨g0, o, none⟩ u) := Off.setCell (S := fun x => x = g0) (p := ⟨g0, o, none⟩) (Off.of_ext h) (.inl rfl) u
theorem Off.box24 {S : Nat → Prop} {w w' : World} {g h : Nat} {a b c d e f : Value} (hx : Off S w w') (hg : g < w.heap.size) (hs : ¬ S g) (h0 : w.cell? ⟨g, 0, none⟩ = some a) (h1 : w.cell? ⟨g, 1, none⟩ = some b) (hh : h < w.heap.size) (ht : ¬ S h) (k0 : w.cell? ⟨h, 0, none⟩ = some c) (k1 : w.cell? ⟨h, 1, none⟩ = some d) (k2 : w.cell? ⟨h, 2, none⟩ = some e) (k3 : w.cell? ⟨h, 3, none⟩ = some f) :
    w'.cell? ⟨g, 0, none⟩ = some a ∧ w'.cell? ⟨g, 1, none⟩ = some b ∧ w'.cell? ⟨h, 0, none⟩ = some c ∧ w'.cell? ⟨h, 1, none⟩ = some d ∧ w'.cell? ⟨h, 2, none⟩ = some e ∧ w'.cell? ⟨h, 3, none⟩ = some f ∧ Off S w w' :=
  Off.and_cell hg hs h0 hx (Off.and_cell hg hs h1 hx (Off.and_cell hh ht k0 hx (Off.and_cell hh ht k1 hx (Off.and_cell hh ht k2 hx (Off.and_cell hh ht k3 hx hx)))))
/-- a network of the call's own: its sets lie in [a, b), its links in a block before a -/
structure NetS (T : TypeId) (w : World) (lo a b : Nat) (s k : Value) (n : Net) : Prop where
  la : lo ≤ a
  ab : a ≤ b
  bw : b ≤ w.heap.size
  sets : OwnSets w a b s n.sets
  links : w.ownsRow lo T 4 k n.links.length (cellsOf (n.links.length * 4) (linkCell n.links))
  lk : ∀ g, k.ownBlock = some g → g < a
theorem NetS.of {T : TypeId} {n : Net} {w : World} {e : Ending} {w' : World} (h : NewNetL T n w e w') : ∃ s k a b, e = .returned (.agg #[s, k]) ∧ Ext w w' ∧ NetS T w' w.heap.size a b s k n := by
  obtain ⟨s, k, a, b, h1, h2, h3, h4, h5, h6, h7, h8⟩ := h
  exact ⟨s, k, a, b, h1, h2, h3, h4, h5, h6, h7, h8⟩
section
variable {T : TypeId} {w w' : World} {lo a b : Nat} {s k : Value} {n : Net}
theorem NetS.ext (h : NetS T w lo a b s k n) (hx : Ext w w') : NetS T w' lo a b s k n := ⟨h.la, h.ab, Nat.le_trans h.bw hx.size, h.sets.ext hx, row_ext h.links hx, h.lk⟩
theorem NetS.netIn (h : NetS T w lo a b s k n) : NetIn w s k n := by
  obtain ⟨g, hg, ho⟩ := Own.of_owned h.links
  exact ⟨h.sets.sets.mono (Nat.zero_le _) h.bw, ho.row (fun h0 => ⟨Nat.zero_le _, ho.lt h0⟩)⟩
theorem NetS.own (h : NetS T w lo a b s k n) : OwnNet w lo w.heap.size (.agg #[s, k]) n := ownNet_of h.sets h.links h.la h.bw (fun g hg hh => by have := h.lk g hg; omega)
theorem NetS.mono {lo' : Nat} (h : NetS T w lo a b s k n) (hl : lo' ≤ lo) : NetS T w lo' a b s k n := ⟨Nat.le_trans hl h.la, h.ab, h.bw, h.sets, ownsRow_mono h.links hl, h.lk⟩
/-- the cell of a set's header -/
theorem NetS.cell {A : Option Addr} {m c v : Nat} (h : NetS T w lo a b (.slice A m c) k n) (hv : v < n.sets.length) : ∃ g0 off z, A = some ⟨g0, off, none⟩ ∧ a ≤ g0 ∧ g0 < b ∧ w.cell? ⟨g0, off + v, none⟩ = some z ∧ w.frozen? ⟨g0, off + v, none⟩ = false := by
  obtain ⟨g0, f, g, h1, h2, h3, h4⟩ := h.sets
  obtain ⟨_, A', c', e⟩ := h1.len
  have hn : 0 < n.sets.length := by omega
  obtain ⟨off, e2, hlt, hc⟩ := h1.at_ hn
  obtain ⟨x1, x2⟩ := h2 hn
  obtain ⟨y1, y2⟩ := hc v (by omega)
  exact ⟨g0, off, _, e2, x1, x2, y1, y2⟩
theorem NetS.put {w2 : World} {c v N : Nat} {A : Option Addr} {u : Value} {x : List Sp} {T2 : TypeId} (h : NetS T w lo a b (.slice A N c) k n) (hN : N = n.sets.length) (hv : v < n.sets.length) (hx : Ext w w2) (hu : w2.ownsRow w.heap.size T2 2 u x.length (cellsOf (x.length * 2) (spanCell x))) :
    ∃ g0 off, A = some ⟨g0, off, none⟩ ∧ a ≤ g0 ∧ g0 < b ∧ NetS T (w2.setCell ⟨g0, off + v, none⟩ u) lo a w2.heap.size (.slice A N c) k ⟨n.sets.set v x, n.links⟩ := by
  subst hN
  obtain ⟨gu, hgu, ho⟩ := Own.of_owned hu
  obtain ⟨g0, off, e, h1, h2, _, _, h3⟩ := h.sets.put (x := x) hv hx h.bw ho (fun hn => (hgu hn).2)
  refine ⟨g0, off, e, h1, h2, h.la, by have := hx.size; have := h.bw; have := h.ab; omega, by simp [World.setCell], h3, ?_, h.lk⟩
  exact ownsRow_setCell_other (row_ext h.links hx) (fun hh => by have := h.lk _ hh; exact absurd this (by show ¬ g0 < a; omega)) _
end
theorem LkOk.part {n : Net} {l : Lk} (h : NetD n) (hl : LkOk l n.sets.length) : PartIn n l := by
  obtain ⟨⟨a, b⟩, ⟨c, d⟩, _, e, f, g⟩ := hl
  exact ⟨⟨a, by omega⟩, ⟨c, by omega⟩, e, f, g, h.sets⟩
set_option maxRecDepth 100000 in
set_option maxHeartbeats 16000000 in
theorem impl_narrowLink (s k : Value) (n : Net) (l : Lk) (lo a b : Nat) (w : World) (h : NetS 98 w lo a b s k n) (hn : NetD n) (hl : LkOk l n.sets.length) :
    Calls Tryz.prog 122 #[.agg #[s, k], .agg #[.int .i64 l.be, .int .i64 l.af, .int .i64 l.le, .int .i64 l.mo]] w (fun e w' => e = .returned (.tuple #[]) ∧ Off (fun x => s.ownBlock = some x) w w' ∧ NetS 98 w' lo a w'.heap.size s k (narL n l)) := by
  obtain ⟨As, cs, rfl, hns, hcs⟩ := h.netIn.1.len
  obtain ⟨Ak, ck, rfl, hnk, hck⟩ := h.netIn.2.len
  have Hn1 := Lib.hid (nar1_ok hn hl)
  have Hl1 : Hid (LkOk l (nar1 n l).sets.length) := Lib.hid (by rw [Hn1.out.2.ns]; exact hl)
  have Hp := Lib.hid (LkOk.part hn hl)
  have Hp1 := Lib.hid (LkOk.part Hn1.out.1 Hl1.out)
  obtain ⟨⟨be1, be2⟩, ⟨af1, af2⟩, -⟩ := hl
  have H := Lib.hid h
  have hbw := h.bw
  have hbN : l.be.toNat < n.sets.length := by omega
  have haN : l.af.toNat < n.sets.length := by omega
  have hbI : l.be < (n.sets.length : Int) := by omega
  have haI : l.af < (n.sets.length : Int) := by omega
  obtain ⟨g0, off, za, rfl, ga, gb, c1, z1⟩ := h.cell haN
  clear h hn
  go_enter Tryz.func122, Tryz.ntmps122
  go_wp2_with fail
  obtain ⟨w0, hw0⟩ : ∃ x : World, x = (w.alloc (.cells #[.slice (some ⟨g0, off, none⟩) n.sets.length cs, .slice Ak n.links.length ck] 27)).alloc (.cells #[.int .i64 l.be, .int .i64 l.af, .int .i64 l.le, .int .i64 l.mo] 98) := ⟨_, rfl⟩
  have hx0 : Ext w w0 := by rw [hw0]; exact (by repeat (first | exact Ext.refl _ | assumption | refine Ext.alloc ?_ _ | refine Ext.drew ?_ | refine Ext.drewN ?_ _ | refine Ext.setCell ?_ (by first | (simp; done) | (simp; omega) | omega) _ | refine Ext.trans ?_ (by assumption)))
  have nb := (show Boxed w0 w.heap.size [.slice (some ⟨g0, off, none⟩) n.sets.length cs, .slice Ak n.links.length ck] from by rw [hw0]; exact (Boxed.new w [.slice (some ⟨g0, off, none⟩) n.sets.length cs, .slice Ak n.links.length ck] 27).ext ((Ext.refl _).alloc _)); have nb0 := nb.at0; have nb1 := nb.at1; have nbg := nb.1; have Hnb := Lib.hid nb; clear nb
  have Hlb0 : Hid (Boxed w0 (w.heap.size + 1) [.int .i64 l.be, .int .i64 l.af, .int .i64 l.le, .int .i64 l.mo]) := Lib.hid (by
    have := Boxed.new (w.alloc (.cells #[.slice (some ⟨g0, off, none⟩) n.sets.length cs, .slice Ak n.links.length ck] 27)) [.int .i64 l.be, .int .i64 l.af, .int .i64 l.le, .int .i64 l.mo] 98
    rw [World.size_alloc] at this
    rw [hw0]
    exact this)
  have lb := Hlb0.out; have lb0 := lb.at0; have lb1 := lb.at1; have lb2 := lb.at2; have lb3 := lb.at3; have lbg := lb.1; have Hlb := Lib.hid lb; clear lb
  rw [← hw0]
  clear hw0 Hlb0
  have Hx0 := Lib.hid hx0
  have hz0 := hx0.size
  have hg0 : g0 < w0.heap.size := by omega
  have q1 := (hx0.cell (p := ⟨g0, off + l.af.toNat, none⟩) (by show g0 < _; omega)).trans c1
  have q2 := (hx0.frozen (p := ⟨g0, off + l.af.toNat, none⟩) (by show g0 < _; omega)).trans z1
  clear c1 z1
  have hnn : ¬ (fun x => x = g0) w.heap.size := by show ¬ (_ = g0); omega
  have hnl : ¬ (fun x => x = g0) (w.heap.size + 1) := by show ¬ (_ = g0); omega
  go_region_held3 (fun w' => w'.cell? ⟨w.heap.size, 0, none⟩ = some (.slice (some ⟨g0, off, none⟩) n.sets.length cs) ∧ w'.cell? ⟨w.heap.size, 1, none⟩ = some (.slice Ak n.links.length ck) ∧ w'.cell? ⟨w.heap.size + 1, 0, none⟩ = some (.int .i64 l.be) ∧ w'.cell? ⟨w.heap.size + 1, 1, none⟩ = some (.int .i64 l.af) ∧ w'.cell? ⟨w.heap.size + 1, 2, none⟩ = some (.int .i64 l.le) ∧ w'.cell? ⟨w.heap.size + 1, 3, none⟩ = some (.int .i64 l.mo) ∧ Off (fun x => x = g0) w0 w')
    ((refine Off.box24 (S := fun x => x = g0) ?_ nbg hnn nb0 nb1 lbg hnl lb0 lb1 lb2 lb3; first | exact Off.put_ hxp0 | (refine Off.of_ext ?_; exact (by repeat (first | exact Ext.refl _ | assumption | refine Ext.alloc ?_ _ | refine Ext.drew ?_ | refine Ext.drewN ?_ _ | refine Ext.setCell ?_ (by first | (simp; done) | (simp; omega) | omega) _ | refine Ext.trans ?_ (by assumption))))))
    ((first
      | (go_at_call 143; refine Calls.mono (impl_partnerDays _ _ n l true _ (H.out.netIn.up (by repeat (first | exact Ext.refl _ | assumption | refine Ext.alloc ?_ _ | refine Ext.drew ?_ | refine Ext.drewN ?_ _ | refine Ext.setCell ?_ (by first | (simp; done) | (simp; omega) | omega) _ | refine Ext.trans ?_ (by assumption)))) Hp.out) ?_; rintro e wp ⟨vp, rfl, hxp, hrp⟩; obtain ⟨Ap, cp, rfl⟩ := ownsRow_len hrp; have hxp0 : Ext w0 wp := (by repeat (first | exact Ext.refl _ | assumption | refine Ext.alloc ?_ _ | refine Ext.drew ?_ | refine Ext.drewN ?_ _ | refine Ext.setCell ?_ (by first | (simp; done) | (simp; omega) | omega) _ | refine Ext.trans ?_ (by assumption))); have q3 := (hxp0.cell (p := ⟨g0, off + l.af.toNat, none⟩) hg0).trans q1; have q4 := (hxp0.frozen (p := ⟨g0, off + l.af.toNat, none⟩) hg0).trans q2)))
  obtain ⟨w2, hw2⟩ : ∃ x : World, x = wp.setCell ⟨g0, off + l.af.toNat, none⟩ (.slice Ap (partN n l true).length cp) := ⟨_, rfl⟩
  have hO2 : Off (fun x => x = g0) w0 w2 := by rw [hw2]; exact Off.put_ hxp0
  have hS2 : NetS 98 w2 lo a wp.heap.size (.slice (some ⟨g0, off, none⟩) n.sets.length cs) (.slice Ak n.links.length ck) (nar1 n l) := by
    obtain ⟨g1, off1, e1, _, _, hS2⟩ := H.out.put rfl haN (hx0.trans hxp0) (ownsRow_mono hrp hx0.size)
    injection e1 with e1
    injection e1 with e2 e3
    subst e2 e3
    rw [hw2]
    exact hS2
  rw [← hw2]
  have hnl1 : (nar1 n l).sets.length = n.sets.length := Hn1.out.2.ns
  obtain ⟨g1, off1, zb, e1, _, _, c3, z3⟩ := hS2.cell (v := l.be.toNat) (by rw [hnl1]; exact hbN)
  injection e1 with e1
  injection e1 with e2 e3
  subst e2 e3
  have hz2 := hO2.size
  have HS2 := Lib.hid hS2
  have HO2 := Lib.hid hO2
  obtain ⟨mb0, mb1, kb0, kb1, kb2, kb3, -⟩ := Off.box24 hO2 nbg hnn nb0 nb1 lbg hnl lb0 lb1 lb2 lb3
  have mbg : w.heap.size < w2.heap.size := by omega
  have kbg : w.heap.size + 1 < w2.heap.size := by omega
  have hg2 : g0 < w2.heap.size := by omega
  clear hw2 hS2 hO2 q1 q2 q3 q4 hxp hxp0 hrp nb0 nb1 nbg lb0 lb1 lb2 lb3 lbg hx0
  go_wp2_with fail
  go_region_held3 (fun w' => w'.cell? ⟨w.heap.size, 0, none⟩ = some (.slice (some ⟨g0, off, none⟩) n.sets.length cs) ∧ w'.cell? ⟨w.heap.size, 1, none⟩ = some (.slice Ak n.links.length ck) ∧ w'.cell? ⟨w.heap.size + 1, 0, none⟩ = some (.int .i64 l.be) ∧ w'.cell? ⟨w.heap.size + 1, 1, none⟩ = some (.int .i64 l.af) ∧ w'.cell? ⟨w.heap.size + 1, 2, none⟩ = some (.int .i64 l.le) ∧ w'.cell? ⟨w.heap.size + 1, 3, none⟩ = some (.int .i64 l.mo) ∧ Off (fun x => x = g0) w2 w')
    ((refine Off.box24 (S := fun x => x = g0) ?_ mbg hnn mb0 mb1 kbg hnl kb0 kb1 kb2 kb3; first | exact Off.put_ hxq0 | (refine Off.of_ext ?_; exact (by repeat (first | exact Ext.refl _ | assumption | refine Ext.alloc ?_ _ | refine Ext.drew ?_ | refine Ext.drewN ?_ _ | refine Ext.setCell ?_ (by first | (simp; done) | (simp; omega) | omega) _ | refine Ext.trans ?_ (by assumption))))))
    ((first
      | (go_at_call 143; refine Calls.mono (impl_partnerDays _ _ (nar1 n l) l false _ (HS2.out.netIn.up (by repeat (first | exact Ext.refl _ | assumption | refine Ext.alloc ?_ _ | refine Ext.drew ?_ | refine Ext.drewN ?_ _ | refine Ext.setCell ?_ (by first | (simp; done) | (simp; omega) | omega) _ | refine Ext.trans ?_ (by assumption)))) Hp1.out) ?_; rintro e wq ⟨vq, rfl, hxq, hrq⟩; obtain ⟨Aq, cq, rfl⟩ := ownsRow_len hrq; have hxq0 : Ext w2 wq := (by repeat (first | exact Ext.refl _ | assumption | refine Ext.alloc ?_ _ | refine Ext.drew ?_ | refine Ext.drewN ?_ _ | refine Ext.setCell ?_ (by first | (simp; done) | (simp; omega) | omega) _ | refine Ext.trans ?_ (by assumption))); have q3 := (hxq0.cell (p := ⟨g0, off + l.be.toNat, none⟩) hg2).trans c3; have q4 := (hxq0.frozen (p := ⟨g0, off + l.be.toNat, none⟩) hg2).trans z3)))
  obtain ⟨w4, hw4⟩ : ∃ x : World, x = wq.setCell ⟨g0, off + l.be.toNat, none⟩ (.slice Aq (partN (nar1 n l) l false).length cq) := ⟨_, rfl⟩
  have hO4 : Off (fun x => x = g0) w2 w4 := by rw [hw4]; exact Off.put_ hxq0
  have hS4 : NetS 98 w4 lo a w4.heap.size (.slice (some ⟨g0, off, none⟩) n.sets.length cs) (.slice Ak n.links.length ck) (narL n l) := by
    obtain ⟨g1, off1, e1, _, _, hS4⟩ := HS2.out.put hnl1.symm (v := l.be.toNat) (by rw [hnl1]; exact hbN) hxq0 hrq
    injection e1 with e1
    injection e1 with e2 e3
    subst e2 e3
    rw [hw4]
    have e : (wq.setCell ⟨g0, off + l.be.toNat, none⟩ (.slice Aq (partN (nar1 n l) l false).length cq)).heap.size = wq.heap.size := by simp [World.setCell]
    rw [e]
    exact hS4
  rw [← hw4]
  clear hw4
  go_wp2_with fail
  go_end0
  exact ⟨rfl, (((Off.of_ext Hx0.out).trans HO2.out).trans hO4).mono (fun k hk => by rw [hk]; rfl), hS4⟩
end Go.Proofs.YtfajmlkiidnhlaaGreat

/- Contract: l19Link. -/
namespace Go.Proofs.YtfajmlkiidnhlaaGreat
set_option linter.unusedVariables false
set_option linter.unusedSimpArgs false
open Go.RowKit
attribute [local go_sem] cell_onto
theorem NetD.small {n : Net} (h : NetD n) : Small n := ⟨by have := h.ns; omega, by have := h.nl; omega, fun i hi => by have := (h.sets i hi).len; omega⟩
theorem NetS.to {T : TypeId} {n : Net} {w w' : World} {a b : Nat} {s k : Value} (hx : Ext w w') (h : NetS T w' w.heap.size a b s k n) : NewNetL T n w (.returned (.agg #[s, k])) w' :=
  ⟨s, k, a, b, rfl, hx, h.la, h.ab, h.bw, h.sets, h.links, h.lk⟩
theorem NetS.off {S : Nat → Prop} {T : TypeId} {n : Net} {w w' : World} {lo a b : Nat} {s k : Value} (h : NetS T w lo a b s k n) (hx : Off S w w') (hs : ∀ x, S x → (x < a ∧ k.ownBlock ≠ some x) ∨ b ≤ x) : NetS T w' lo a b s k n :=
  ⟨h.la, h.ab, Nat.le_trans h.bw hx.size, h.sets.off hx (fun x h1 h2 hh => by rcases hs x hh with h3 | h3 <;> omega), ownsRow_off h.links hx (fun g hg hh => by
    rcases hs g hh with h3 | h3
    · exact h3.2 hg
    · have := h.lk g hg; have := h.ab; omega), h.lk⟩
end Go.Proofs.YtfajmlkiidnhlaaGreat
