/- Texts merged (a claim holds at most sixty files): Dn, Do, Dq. -/
import Derived.Test.YtfajmlkiidnhlaaGreatQ3Dg
import Derived.Test.YtfajmlkiidnhlaaGreatQ3G
/- Contracts: networks that the layer of solutions draws out of a source. -/
namespace Go.Proofs.YtfajmlkiidnhlaaGreat
set_option linter.unusedVariables false
set_option linter.unusedSimpArgs false
open Go.RowKit
attribute [local go_sem] cell_onto

set_option maxRecDepth 100000 in
set_option maxHeartbeats 2000000 in
theorem spec_l20DrawVariable (b0 g cn m cs : Nat) (As : Option Addr) (cv k : Value) (w : World) (h : Src b0 g cv cn w) (hm : m ≤ 1000) : Calls Tryz.prog 70 #[.pointer (some ⟨g, 0, none⟩), .agg #[.slice As m cs, k]] w (DrNum b0 g cv cn (fun _ => True) w) := by
  have hg := h.lt
  obtain ⟨w1, hw1⟩ : ∃ w1 : World, w1 = w.alloc (.cells #[.slice As m cs, k] 27) := ⟨_, rfl⟩
  have hz1 : w1.heap.size = w.heap.size + 1 := by rw [hw1]; simp
  have HB1 := Lib.hid (show Boxed w1 w.heap.size [.slice As m cs, k] from by rw [hw1]; exact Boxed.new w [.slice As m cs, k] 27)
  have Hd1 := Lib.hid (show Drw b0 g cv cn w w1 from by rw [hw1]; exact (Drw.refl h).alloc _)
  clear h
  go_enter Tryz.func70, Tryz.ntmps70
  go_wp2_with fail
  rw [← hw1]
  clear hw1
  refine Calls.mono (spec_l01Next _ _ cn _ 30 _ Hd1.out.src) ?_
  rintro e w2 ⟨r, rfl, -, hd2⟩
  have Hd2 := Lib.hid (Hd1.out.trans hd2)
  have hz2 := hd2.size
  have HB2 := Lib.hid (HB1.out.drw hd2 (by omega))
  have bb0 := HB2.out.at0
  have bb1 := HB2.out.at1
  have bbg := HB2.out.1
  clear hd2
  by_cases z0 : r = 0
  · subst z0
    have hpk := box_pick (b0 := b0) (g := g) (cn := cn) (cv := cv) [-1, (m : Int)] (Boxed.new w2 [.int .i64 (-1), .int .i64 (m : Int)] 2) (by simp) (by omega)
    have Hpk := Lib.hid hpk
    clear hpk
    go_wp2_with fail
    refine Calls.mono (spec_l01Pick _ _ cn _ _ [-1, (m : Int)] _ (Hd2.out.alloc _).src Hpk.out.1 (by simp) Hpk.out.2) ?_
    rintro e w5 ⟨x, rfl, -, hd5⟩
    have Hd5 := Lib.hid ((Hd2.out.alloc _).trans hd5)
    clear hd5
    go_wp2_with fail
    go_ret
    exact ⟨x, rfl, trivial, Hd5.out⟩
  · have z0' : (r == 0) = false := by simpa using z0
    go_wp2_with fail
    refine Calls.mono (spec_l01Next _ _ cn _ _ _ Hd2.out.src) ?_
    rintro e w3 ⟨x, rfl, -, hd3⟩
    have Hd3 := Lib.hid (Hd2.out.trans hd3)
    clear hd3
    go_wp2_with fail
    go_ret
    exact ⟨x, rfl, trivial, Hd3.out⟩
/-- spans that are drawn: to be read, from lo on -/
def DrSpQ (b0 g : Nat) (cv : Value) (cn lo : Nat) (w : World) (e : Ending) (w' : World) : Prop :=
  ∃ (v : Value) (l : List Sp), e = .returned v ∧ Drw b0 g cv cn w w' ∧ Spans w' lo w'.heap.size v l
theorem Spans.cap_le {w : World} {lo hi : Nat} {A : Option Addr} {n c : Nat} {l : List Sp} (h : Spans w lo hi (.slice A n c) l) : l.length ≤ c := by
  obtain ⟨hm, A', c', e, hc, hr⟩ := h
  injection e with e1 e2 e3
  omega
theorem spAt_tail (l : List Sp) (i : Nat) : spAt l.tail i = spAt l (i + 1) := by
  unfold spAt
  cases l <;> simp [List.getD]
theorem Spans.tail2 {w : World} {lo hi : Nat} {A : Option Addr} {n c b off : Nat} {l : List Sp} (h : Spans w lo hi (.slice A n c) l) (hA : A = some ⟨b, off, none⟩) (h0 : 0 < l.length) :
    Spans w lo hi (.slice (if c = 1 then some ⟨b, off, none⟩ else some ⟨b, off + 2, none⟩) (l.length - 1) (c - 1)) l.tail := by
  have hcap := h.cap_le
  subst hA
  obtain ⟨hm, A', c', e, hc, hr⟩ := h
  injection e with e1 e2 e3
  subst e3
  obtain ⟨b', off', e4, h1, h2, h3⟩ := hr h0
  rw [← e1] at e4
  injection e4 with e4
  injection e4 with e5 e6
  subst e5 e6
  have hl : l.tail.length = l.length - 1 := by simp
  unfold Spans
  rw [hl]
  by_cases h1c : c = 1
  · rw [if_pos h1c]
    exact ⟨by omega, _, _, rfl, by omega, fun hh => by omega⟩
  · rw [if_neg h1c]
    refine ⟨by omega, _, _, rfl, by omega, fun _ => ⟨b, off + 2, rfl, h1, h2, fun i hi => ?_⟩⟩
    have := h3 (i + 2) (by omega)
    rw [show off + (i + 2) = off + 2 + i by omega] at this
    rw [this]
    unfold spanCell
    rw [spAt_tail, show (i + 2) % 2 = i % 2 by omega, show (i + 2) / 2 = i / 2 + 1 by omega]
theorem rowSpans2 {w : World} {base T : Nat} {v : Value} {l : List Sp} (h : w.ownsRow base T 2 v l.length (cellsOf (l.length * 2) (spanCell l))) : Spans w base w.heap.size v l := by
  obtain ⟨g, h1, ho⟩ := Own.of_owned h
  exact ho.row (fun h0 => ⟨(h1 h0).2, ho.lt h0⟩)
set_option maxRecDepth 100000 in
set_option maxHeartbeats 4000000 in
theorem spec_l20Set (b0 g cn lo : Nat) (cv v : Value) (l : List Sp) (w : World) (h : Src b0 g cv cn w) (hl : Spans w lo w.heap.size v l) (hlo : g < lo) (hlw : lo ≤ w.heap.size) (h0 : 0 < l.length) (h6 : l.length ≤ 1000) : Calls Tryz.prog 127 #[.pointer (some ⟨g, 0, none⟩), v] w (DrSpQ b0 g cv cn lo w) := by
  obtain ⟨A, c, rfl, hll, hlc⟩ := hl.len
  have hg := h.lt
  have H := Lib.hid hl
  have Hs := Lib.hid h
  clear h hl
  go_enter Tryz.func127, Tryz.ntmps127
  go_wp2_with fail
  refine Calls.mono (spec_l01Next _ _ cn _ 3 _ Hs.out) ?_
  rintro e w2 ⟨r, rfl, -, hd2⟩
  have Hd2 := Lib.hid hd2
  have hz2 := hd2.size
  have HL2 := Lib.hid (show Spans w2 lo w2.heap.size (.slice A l.length c) l from (Row.off H.out hd2.off (fun k h1 _ hh => by have e : k = g := hh; omega) (Nat.le_refl _)).mono (Nat.le_refl _) hz2)
  clear hd2
  by_cases z0 : r = 0
  · subst z0
    obtain ⟨b, off, hA, _, hb, _⟩ := HL2.out.at_ h0
    have HT := Lib.hid (HL2.out.tail2 hA h0)
    subst hA
    have h1i : (1 : Int) ≤ (l.length : Int) := by omega
    have hci : (l.length : Int) ≤ (c : Int) := by omega
    go_wp2_with fail
    all_goals
      go_ret
      refine ⟨_, l.tail, rfl, Hd2.out, ?_⟩
      first
        | exact HT.out
        | (have := HT.out; simp_all; done)
  · have z0' : (r == 0) = false := by simpa using z0
    by_cases z1 : r = 1
    · subst z1
      go_wp2_with (at_builtin; first
        | (refine wpList_append_row _ rfl _ _ 41 rfl w2.heap.size 89 2 16 Tryz.underlying41 (by kernel_rfl) (by omega) _ l.length 1 _ rfl (.inl (row_ext Hr9.out (by repeat (first | exact Ext.refl _ | assumption | refine Ext.alloc ?_ _ | refine Ext.drew ?_ | refine Ext.drewN ?_ _ | refine Ext.setCell ?_ (by first | (simp; done) | (simp; omega) | omega) _ | refine Ext.trans ?_ (by assumption))))) (.inr (by omega)) 0 _ _ (spanCell [⟨5000, 5001⟩]) rfl ((Boxed.new w9 [.int .i64 5000, .int .i64 5001] 89).row rfl (span_cells _ _)) (fun i _ => spanCell_one _ i) (by unfold maxLen; omega) (by omega) (by simp; omega) ?_; intro v8 w8 hown8 hput8; have Hr8 := Lib.hid (RowSp.push hown8); have Hd8 := Lib.hid ((Hd9.out.alloc _).put (by omega) hput8 (by omega)); clear hown8 hput8)
        | (refine wpList_append_row _ rfl _ _ 41 rfl w2.heap.size 89 2 16 Tryz.underlying41 (by kernel_rfl) (by omega) _ 0 l.length [] rfl (.inl (World.ownsRow_made w2 #[] 0 (Nat.le_refl _) (Nat.zero_le _) rfl)) (.inr h0) lo _ _ (spanCell l) rfl ((HL2.out.ext (by repeat (first | exact Ext.refl _ | assumption | refine Ext.alloc ?_ _ | refine Ext.drew ?_ | refine Ext.drewN ?_ _ | refine Ext.setCell ?_ (by first | (simp; done) | (simp; omega) | omega) _ | refine Ext.trans ?_ (by assumption))) (Nat.le_refl _))) (fun i _ => spanCell_one _ i) (by unfold maxLen; omega) (by omega) (by simp) ?_; intro v9 w9 hown9 hput9; have Hr9 := Lib.hid (show w9.ownsRow w2.heap.size 89 2 v9 l.length (cellsOf (l.length * 2) (spanCell l)) from by simpa using hown9); have Hd9 := Lib.hid ((Hd2.out.alloc _).put (by omega) hput9 (by omega)); obtain ⟨A9, c9, rfl⟩ := ownsRow_len Hr9.out; have hz9 := hput9.1.size; rw [World.size_alloc] at hz9; clear hown9 hput9))
      go_ret
      exact ⟨_, l ++ [⟨5000, 5001⟩], rfl, Hd8.out, (rowSpans2 Hr8.out).mono (by omega) (Nat.le_refl _)⟩
    · have z1' : (r == 1) = false := by simpa using z1
      go_wp2_with fail
      go_ret
      exact ⟨_, l, rfl, Hd2.out, HL2.out⟩
end Go.Proofs.YtfajmlkiidnhlaaGreat

/- Contracts: networks that the layer of solutions draws. -/
namespace Go.Proofs.YtfajmlkiidnhlaaGreat
set_option linter.unusedVariables false
set_option linter.unusedSimpArgs false
open Go.RowKit
attribute [local go_sem] cell_onto

def DrNetU (b0 g : Nat) (cv : Value) (cn : Nat) (w : World) (e : Ending) (w' : World) : Prop :=
  ∃ (s k : Value) (n : Net), e = .returned (.agg #[s, k]) ∧ Drw b0 g cv cn w w' ∧ n.sets.length ≤ 8 ∧ NetAt w' w.heap.size w'.heap.size s k n
theorem DrNetU.fin {b0 g q cn lo : Nat} {cv s k : Value} {n : Net} {w wz : World} (hd : Drw b0 g cv cn w wz) (hN : NetAt wz lo wz.heap.size s k n) (hq : q < lo) (hwq : w.heap.size ≤ q) (hg : g < w.heap.size) (hf : n.sets.length ≤ 8) :
    DrNetU b0 g cv cn w (.returned (.agg #[s, k])) ((wz.setCell ⟨q, 0, none⟩ s).setCell ⟨q, 1, none⟩ k) :=
  ⟨s, k, n, rfl, (hd.setCell (p := ⟨q, 0, none⟩) hwq (by show g < q; omega) _).setCell (p := ⟨q, 1, none⟩) hwq (by show g < q; omega) _, hf, (net_store hN hq).wide (by omega) (Nat.le_refl _)⟩
theorem three_net {w : World} {lo g1 g2 g3 : Nat} {s0 s1 : Value} {l0 l1 : List Sp} {x : Int} (h0 : Spans w lo w.heap.size s0 l0) (h1 : Spans w lo w.heap.size s1 l1) (h2 : Boxed w g1 [.int .i64 1000, .int .i64 x]) (h3 : Boxed w g2 [s0, s1, .slice (some ⟨g1, 0, none⟩) 1 1])
    (h4 : Boxed w g3 [.int .i64 0, .int .i64 1, .int .i64 10, .int .i64 12]) (e1 : lo ≤ g1) (e2 : lo ≤ g2) (e3 : lo ≤ g3) : NetAt w lo w.heap.size (.slice (some ⟨g2, 0, none⟩) 3 3) (.slice (some ⟨g3, 0, none⟩) 1 1) ⟨[l0, l1, [⟨1000, x⟩]], [⟨0, 1, 10, 12⟩]⟩ := by
  refine ⟨⟨fun i => if i = 0 then s0 else if i = 1 then s1 else .slice (some ⟨g1, 0, none⟩) 1 1, ?_, ?_⟩, ?_⟩
  · exact boxRow h3 (by show 3 ≤ 4096; omega) (fun i hi => by
      have hi' : i < 3 := hi
      match i, hi' with
      | 0, _ => rfl
      | 1, _ => rfl
      | 2, _ => rfl) lo e2
  · intro i hi
    have hi' : i < 3 := hi
    match i, hi' with
    | 0, _ => exact h0
    | 1, _ => exact h1
    | 2, _ => exact boxRow h2 (by show 1 ≤ 4096; omega) (fun i hi => by
        have hi' : i < 2 := hi
        match i, hi' with
        | 0, _ => rfl
        | 1, _ => rfl) lo e1
  · exact boxRow h4 (by show 1 ≤ 4096; omega) (fun i hi => by
      have hi' : i < 4 := hi
      match i, hi' with
      | 0, _ => rfl
      | 1, _ => rfl
      | 2, _ => rfl
      | 3, _ => rfl) lo e3
set_option maxRecDepth 100000 in
set_option maxHeartbeats 8000000 in
theorem spec_l20Draw (b0 g cn : Nat) (cv : Value) (w : World) (h : Src b0 g cv cn w) : Calls Tryz.prog 69 #[.pointer (some ⟨g, 0, none⟩)] w (DrNetU b0 g cv cn w) := by
  have Hs := Lib.hid h
  have hg := h.lt
  have hlo := h.lo
  clear h
  obtain ⟨w1, hw1⟩ : ∃ w1 : World, w1 = w.alloc (.cells #[.slice none 0 0, .slice none 0 0] 27) := ⟨_, rfl⟩
  have hd1 : Drw b0 g cv cn w w1 := by rw [hw1]; exact (Drw.refl Hs.out).alloc _
  have hz1 : w1.heap.size = w.heap.size + 1 := by rw [hw1]; simp
  have HB1 := Lib.hid (show Boxed w1 w.heap.size [.slice none 0 0, .slice none 0 0] from by rw [hw1]; exact Boxed.new w [.slice none 0 0, .slice none 0 0] 27)
  have Hd1 := Lib.hid hd1
  clear hd1
  go_enter Tryz.func69, Tryz.ntmps69
  go_wp2_with fail
  rw [← hw1]
  clear hw1
  refine Calls.mono (spec_l18Draw _ _ cn _ w1 Hd1.out.src) ?_
  intro e w2 hD
  obtain ⟨s, k, n, rfl, hd2, hf, hN⟩ := hD.fresh
  have hz2 := hd2.size
  have hf1 := hf.1
  have HN2 := Lib.hid hN
  obtain ⟨As, cs, rfl, _⟩ := HN2.out.1.len
  obtain ⟨Ak, ck, rfl, _⟩ := HN2.out.2.len
  have Hd2 := Lib.hid hd2
  have HB2 := Lib.hid (HB1.out.drw hd2 (by omega))
  clear hd2 hN hD hf
  obtain ⟨w3, hw3⟩ : ∃ w3 : World, w3 = w2.alloc (.cells #[.slice As n.sets.length cs, .slice Ak n.links.length ck] 27) := ⟨_, rfl⟩
  have hx3 : Ext w2 w3 := by rw [hw3]; exact (by repeat (first | exact Ext.refl _ | assumption | refine Ext.alloc ?_ _ | refine Ext.drew ?_ | refine Ext.drewN ?_ _ | refine Ext.setCell ?_ (by first | (simp; done) | (simp; omega) | omega) _ | refine Ext.trans ?_ (by assumption)))
  have hz3 : w3.heap.size = w2.heap.size + 1 := by rw [hw3]; simp
  have Hm3 := Lib.hid (show Boxed w3 w2.heap.size [.slice As n.sets.length cs, .slice Ak n.links.length ck] from by rw [hw3]; exact Boxed.new w2 [.slice As n.sets.length cs, .slice Ak n.links.length ck] 27)
  have HB3 := Lib.hid (HB2.out.ext hx3)
  have HN3 := Lib.hid ((HN2.out.ext hx3 (Nat.le_refl _)).wide (Nat.le_refl _) hx3.size)
  have Hd3 := Lib.hid (Hd2.out.ext hx3)
  go_wp2_with fail
  rw [← hw3]
  clear hw3 hx3
  try go_wp2_with fail
  refine Calls.mono (spec_l01Next _ _ cn _ 60 _ Hd3.out.src) ?_
  rintro e w4 ⟨r, rfl, -, hd4⟩
  have hz4 := hd4.size
  have He4 := Lib.hid hd4
  have Hd4 := Lib.hid (Hd3.out.trans hd4)
  have HB4 := Lib.hid (HB3.out.drw hd4 (by omega))
  have Hm4 := Lib.hid (Hm3.out.drw hd4 (by omega))
  clear hd4
  by_cases z0 : r = 0
  case neg =>
    have z0' : (r == 0) = false := by simpa using z0
    have HN4 := Lib.hid ((HN3.out.drw He4.out (by omega) (Nat.le_refl _)).wide (Nat.le_refl _) hz4)
    have q0 := HB4.out.at0
    have q1 := HB4.out.at1
    have qf0 := HB4.out.fz 0 (by simp)
    have qf1 := HB4.out.fz 1 (by simp)
    have qg := HB4.out.1
    have m0 := Hm4.out.at0
    have m1 := Hm4.out.at1
    have mg := Hm4.out.1
    go_wp2_with fail
    refine bodyPost_ret (v := .agg #[.slice As n.sets.length cs, .slice Ak n.links.length ck]) (by simp [results, Tryz.results69, go_sem, *]) rfl ?_
    exact DrNetU.fin (Hd1.out.trans Hd4.out) HN4.out (by omega) (Nat.le_refl _) hg hf1
  subst z0
  clear HN2 HN3 hf1
  have Ho4 : Hid ((w4.alloc (.cells #[] 89)).ownsRow w4.heap.size 89 2 (.slice (some ⟨w4.heap.size, 0, none⟩) 0 0) 0 []) := Lib.hid (World.ownsRow_made w4 #[] 0 (Nat.le_refl _) (Nat.zero_le _) rfl)
  have Hd40 := Lib.hid (show Drw b0 g cv cn w4 (w4.alloc (.cells #[] 89)) from (Drw.refl Hd4.out.src).alloc _)
  go_wp2_with fail
  go_loopg [4, 5] 64 (fun q u4 u5 wr => ∃ (j : Nat) (l : List Sp), j + q = 64 ∧ l.length = j ∧ u5 = .int .i64 j ∧ Hid (Drw b0 g cv cn w4 wr) ∧ Hid (wr.ownsRow w4.heap.size 89 2 u4 l.length (cellsOf (l.length * 2) (spanCell l))))
  case atStart => exact ⟨0, [], by omega, rfl, rfl, Hd40, Lib.hid (by simpa [cellsOf] using Ho4.out)⟩
  clear Ho4 Hd40
  case round =>
    obtain ⟨j, l, hj, hl, rfl, Hd, Ho⟩ := hrel
    obtain ⟨Au, cu, rfl⟩ := ownsRow_len Ho.out
    have hzr := Hd.out.size
    by_cases hlt : j < 64
    · have hlti : (j : Int) < 64 := by omega
      have W5 : IntKind.i64.wrap (5 * (j : Int)) = 5 * (j : Int) := IntWalk.i64_in _ (by omega)
      have W6 : IntKind.i64.wrap (1000 + 5 * (j : Int)) = 1000 + 5 * (j : Int) := IntWalk.i64_in _ (by omega)
      have W7 : IntKind.i64.wrap (1001 + 5 * (j : Int)) = 1001 + 5 * (j : Int) := IntWalk.i64_in _ (by omega)
      go_wp2_with (at_builtin; refine wpList_append_row _ rfl _ _ 41 rfl w4.heap.size 89 2 16 Tryz.underlying41 (by kernel_rfl) (by omega) _ l.length 1 _ rfl (.inl (row_ext Ho.out (by repeat (first | exact Ext.refl _ | assumption | refine Ext.alloc ?_ _ | refine Ext.drew ?_ | refine Ext.drewN ?_ _ | refine Ext.setCell ?_ (by first | (simp; done) | (simp; omega) | omega) _ | refine Ext.trans ?_ (by assumption))))) (.inr (by omega)) 0 _ _ (spanCell [⟨1000 + 5 * (j : Int), 1001 + 5 * (j : Int)⟩]) rfl ((Boxed.new wr [.int .i64 (1000 + 5 * (j : Int)), .int .i64 (1001 + 5 * (j : Int))] 89).row rfl (span_cells _ _)) (fun i _ => spanCell_one _ i) (by unfold maxLen; omega) (by omega) (by simp; omega) ?_; intro v9 w9 hown9 hput9; have Hr9 := Lib.hid (RowSp.push hown9); have Hd9 := Lib.hid ((Hd.out.alloc _).put (by omega) hput9 (Nat.le_refl _)); clear hown9 hput9)
      go_roundg (64 - (j + 1))
      case measure => omega
      case rel => exact ⟨j + 1, l ++ [(⟨1000 + 5 * (j : Int), 1001 + 5 * (j : Int)⟩ : Sp)], by omega, by simp; omega, by go_num, Hd9, Lib.hid Hr9.out⟩
    · obtain rfl : j = 64 := by omega
      have hlti : ¬ ((64 : Nat) : Int) < 64 := by omega
      have hL0 := rowSpans2 Ho.out
      have HL := Lib.hid hL0
      have h0l : 0 < l.length := by omega
      have h1l : l.length ≤ 1000 := by omega
      clear hL0
      have Hl := Lib.hid hl
      clear hl
      have hgw : g < w4.heap.size := by omega
      go_wp2_with fail
      refine Calls.mono (spec_l20Set _ _ cn w4.heap.size _ _ l _ Hd.out.src HL.out hgw hzr h0l h1l) ?_
      rintro e w5 ⟨v5, l5, rfl, hd5, hL5⟩
      obtain ⟨A5, c5, rfl, _⟩ := hL5.len
      have hz5 := hd5.size
      have Hd5 := Lib.hid (Hd.out.trans hd5)
      have HL5 := Lib.hid hL5
      have HS5 := Lib.hid (show Spans w5 w4.heap.size w5.heap.size (.slice Au l.length cu) l from (Row.off HL.out hd5.off (fun k h1 _ hh => by have e : k = g := hh; omega) (Nat.le_refl _)).mono (Nat.le_refl _) hz5)
      clear hd5 hL5
      go_wp2_with fail
      refine Calls.mono (spec_l01Next _ _ cn _ 3 _ Hd5.out.src) ?_
      rintro e w6 ⟨r6, rfl, ⟨t0, t1, _⟩, hd6⟩
      have ht1 := t1 (by omega)
      have hz6 := hd6.size
      have Hd6 := Lib.hid (Hd5.out.trans hd6)
      have HL6 := Lib.hid (show Spans w6 w4.heap.size w6.heap.size (.slice A5 l5.length c5) l5 from (Row.off HL5.out hd6.off (fun k h1 _ hh => by have e : k = g := hh; omega) (Nat.le_refl _)).mono (Nat.le_refl _) hz6)
      have HS6 := Lib.hid (show Spans w6 w4.heap.size w6.heap.size (.slice Au l.length cu) l from (Row.off HS5.out hd6.off (fun k h1 _ hh => by have e : k = g := hh; omega) (Nat.le_refl _)).mono (Nat.le_refl _) hz6)
      have HB6 := Lib.hid (HB4.out.drw Hd6.out (by omega))
      have Hm6 := Lib.hid (Hm4.out.drw Hd6.out (by omega))
      clear hd6 t1
      have W8 : IntKind.i64.wrap (1000 + r6) = 1000 + r6 := IntWalk.i64_in _ (by omega)
      obtain ⟨wa, hwa⟩ : ∃ x : World, x = w6.alloc (.cells #[.int .i64 1000, .int .i64 (1000 + r6)] 89) := ⟨_, rfl⟩
      have ea : wa.heap.size = w6.heap.size + 1 := by rw [hwa]; simp
      obtain ⟨wb, hwb⟩ : ∃ x : World, x = wa.alloc (.cells #[.slice Au l.length cu, .slice A5 l5.length c5, .slice (some ⟨w6.heap.size, 0, none⟩) 1 1] 41) := ⟨_, rfl⟩
      have eb : wb.heap.size = w6.heap.size + 1 + 1 := by rw [hwb, World.size_alloc, ea]
      obtain ⟨wc, hwc⟩ : ∃ x : World, x = wb.alloc (.cells #[.int .i64 0, .int .i64 1, .int .i64 10, .int .i64 12] 98) := ⟨_, rfl⟩
      have ec : wc.heap.size = w6.heap.size + 1 + 1 + 1 := by rw [hwc, World.size_alloc, eb]
      have xa : Ext w6 wa := by rw [hwa]; exact (by repeat (first | exact Ext.refl _ | assumption | refine Ext.alloc ?_ _ | refine Ext.drew ?_ | refine Ext.drewN ?_ _ | refine Ext.setCell ?_ (by first | (simp; done) | (simp; omega) | omega) _ | refine Ext.trans ?_ (by assumption)))
      have xb : Ext wa wb := by rw [hwb]; exact (by repeat (first | exact Ext.refl _ | assumption | refine Ext.alloc ?_ _ | refine Ext.drew ?_ | refine Ext.drewN ?_ _ | refine Ext.setCell ?_ (by first | (simp; done) | (simp; omega) | omega) _ | refine Ext.trans ?_ (by assumption)))
      have xc : Ext wb wc := by rw [hwc]; exact (by repeat (first | exact Ext.refl _ | assumption | refine Ext.alloc ?_ _ | refine Ext.drew ?_ | refine Ext.drewN ?_ _ | refine Ext.setCell ?_ (by first | (simp; done) | (simp; omega) | omega) _ | refine Ext.trans ?_ (by assumption)))
      have Y1 : Boxed wa w6.heap.size [.int .i64 1000, .int .i64 (1000 + r6)] := by rw [hwa]; exact Boxed.new w6 [.int .i64 1000, .int .i64 (1000 + r6)] 89
      have Y2 : Boxed wb (w6.heap.size + 1) [.slice Au l.length cu, .slice A5 l5.length c5, .slice (some ⟨w6.heap.size, 0, none⟩) 1 1] := by rw [hwb, ← ea]; exact Boxed.new wa [.slice Au l.length cu, .slice A5 l5.length c5, .slice (some ⟨w6.heap.size, 0, none⟩) 1 1] 41
      have Y3 : Boxed wc (w6.heap.size + 1 + 1) [.int .i64 0, .int .i64 1, .int .i64 10, .int .i64 12] := by rw [hwc, ← eb]; exact Boxed.new wb [.int .i64 0, .int .i64 1, .int .i64 10, .int .i64 12] 98
      have x6 := (xa.trans xb).trans xc
      have ne := three_net (lo := w4.heap.size) ((HS6.out.ext x6 (Nat.le_refl _)).mono (Nat.le_refl _) x6.size) ((HL6.out.ext x6 (Nat.le_refl _)).mono (Nat.le_refl _) x6.size) (Y1.ext (xb.trans xc)) (Y2.ext xc) Y3 (by omega) (by omega) (by omega)
      have Ne := Lib.hid ne
      have hbq := HB6.out.ext x6
      have hbm := Hm6.out.ext x6
      have Hd7 := Lib.hid ((Hd1.out.trans Hd4.out).trans (Hd6.out.ext x6))
      have q0 := hbq.at0
      have q1 := hbq.at1
      have qf0 := hbq.fz 0 (by simp)
      have qf1 := hbq.fz 1 (by simp)
      have m0 := hbm.at0
      have m1 := hbm.at1
      have mf0 := hbm.fz 0 (by simp)
      have mf1 := hbm.fz 1 (by simp)
      have hqm : w.heap.size ≠ w2.heap.size := by omega
      have hmq : w2.heap.size ≠ w.heap.size := by omega
      clear xa xb xc x6 ne hbq hbm ea eb ec Y1 Y2 Y3
      subst hwc hwb hwa
      go_wp2_with fail
      refine bodyPost_ret (v := .agg #[.slice (some ⟨w6.heap.size + 1, 0, none⟩) 3 3, .slice (some ⟨w6.heap.size + 1 + 1, 0, none⟩) 1 1]) (by simp [results, Tryz.results69, go_sem, *]) rfl ?_
      exact DrNetU.fin (n := ⟨[l, l5, [⟨1000, 1000 + r6⟩]], [⟨0, 1, 10, 12⟩]⟩) ((Hd7.out.setCell (p := ⟨w2.heap.size, 0, none⟩) (by show _ ≤ w2.heap.size; omega) (by show g < w2.heap.size; omega) _).setCell (p := ⟨w2.heap.size, 1, none⟩) (by show _ ≤ w2.heap.size; omega) (by show g < w2.heap.size; omega) _) (net_store Ne.out (by omega)) (by omega) (Nat.le_refl _) hg (by show 3 ≤ 8; omega)
set_option maxRecDepth 100000 in
set_option maxHeartbeats 4000000 in
theorem spec_DrawSolvedNetwork (cn : Nat) (cv : Value) (w : World) (h : Bytes w 0 w.heap.size cv cn) : Calls Tryz.prog 24 #[cv] w (DNetW w) := by
  obtain ⟨A, c, rfl, _⟩ := h.len
  have H := Lib.hid h
  clear h
  have Hb := Lib.hid (Boxed.new w [.slice none 0 0, .slice none 0 0] 27)
  go_enter Tryz.func24, Tryz.ntmps24
  go_wp2_with fail
  refine Calls.mono (spec_l01From cn _ _ (H.out.up (by repeat (first | exact Ext.refl _ | assumption | refine Ext.alloc ?_ _ | refine Ext.drew ?_ | refine Ext.drewN ?_ _ | refine Ext.setCell ?_ (by first | (simp; done) | (simp; omega) | omega) _ | refine Ext.trans ?_ (by assumption))))) ?_
  rintro e w1 ⟨rfl, hx1, hs1⟩
  rw [World.size_alloc] at hs1
  have Hs1 := Lib.hid (hs1.low (b1 := w.heap.size) (by omega) (H.out.ext (by repeat (first | exact Ext.refl _ | assumption | refine Ext.alloc ?_ _ | refine Ext.drew ?_ | refine Ext.drewN ?_ _ | refine Ext.setCell ?_ (by first | (simp; done) | (simp; omega) | omega) _ | refine Ext.trans ?_ (by assumption))) (Nat.le_refl _)))
  have hz1 := hx1.size
  rw [World.size_alloc] at hz1
  have HB1 := Lib.hid (Hb.out.ext hx1)
  have hxw1 : Ext w w1 := (by repeat (first | exact Ext.refl _ | assumption | refine Ext.alloc ?_ _ | refine Ext.drew ?_ | refine Ext.drewN ?_ _ | refine Ext.setCell ?_ (by first | (simp; done) | (simp; omega) | omega) _ | refine Ext.trans ?_ (by assumption)))
  clear hs1
  go_wp2_with fail
  refine Calls.mono (spec_l20Draw _ _ cn _ _ Hs1.out) ?_
  rintro e w2 ⟨s, k, n, rfl, hd2, -, hN⟩
  have hxw2 := hd2.old hxw1 (by omega)
  have HN := Lib.hid hN
  have hz2 := hd2.size
  have bb := HB1.out.drw hd2 (by omega)
  have bb0 := bb.at0
  have bb1 := bb.at1
  have bbf0 := bb.fz 0 (by simp)
  have bbf1 := bb.fz 1 (by simp)
  have bbg := bb.1
  have Hbb := Lib.hid bb
  clear bb
  clear hd2 hN
  obtain ⟨As, cs, rfl, _⟩ := HN.out.1.len
  obtain ⟨Ak, ck, rfl, _⟩ := HN.out.2.len
  go_wp2_with fail
  refine bodyPost_ret (v := .agg #[.slice As n.sets.length cs, .slice Ak n.links.length ck]) (by simp [results, Tryz.results24, go_sem, *]) rfl ?_
  exact DNetW.fin hxw2 HN.out (by omega) (Nat.le_refl _)
def DNetXX (w : World) (e : Ending) (w' : World) : Prop := ∃ (s k : Value) (n : Net) (x y : Int), e = .returned (.tuple #[.agg #[s, k], .int .i64 x, .int .i64 y]) ∧ Ext w w' ∧ NetAt w' w.heap.size w'.heap.size s k n
set_option maxRecDepth 100000 in
set_option maxHeartbeats 4000000 in
theorem spec_DrawPossibleDays (cn : Nat) (cv : Value) (w : World) (h : Bytes w 0 w.heap.size cv cn) : Calls Tryz.prog 21 #[cv] w (DNetX w) := by
  obtain ⟨A, c, rfl, _⟩ := h.len
  have H := Lib.hid h
  clear h
  have Hb := Lib.hid (Boxed.new w [.slice none 0 0, .slice none 0 0] 27)
  go_enter Tryz.func21, Tryz.ntmps21
  go_wp2_with fail
  refine Calls.mono (spec_l01From cn _ _ (H.out.up (by repeat (first | exact Ext.refl _ | assumption | refine Ext.alloc ?_ _ | refine Ext.drew ?_ | refine Ext.drewN ?_ _ | refine Ext.setCell ?_ (by first | (simp; done) | (simp; omega) | omega) _ | refine Ext.trans ?_ (by assumption))))) ?_
  rintro e w1 ⟨rfl, hx1, hs1⟩
  rw [World.size_alloc] at hs1
  have Hs1 := Lib.hid (hs1.low (b1 := w.heap.size) (by omega) (H.out.ext (by repeat (first | exact Ext.refl _ | assumption | refine Ext.alloc ?_ _ | refine Ext.drew ?_ | refine Ext.drewN ?_ _ | refine Ext.setCell ?_ (by first | (simp; done) | (simp; omega) | omega) _ | refine Ext.trans ?_ (by assumption))) (Nat.le_refl _)))
  have hz1 := hx1.size
  rw [World.size_alloc] at hz1
  have HB1 := Lib.hid (Hb.out.ext hx1)
  have hxw1 : Ext w w1 := (by repeat (first | exact Ext.refl _ | assumption | refine Ext.alloc ?_ _ | refine Ext.drew ?_ | refine Ext.drewN ?_ _ | refine Ext.setCell ?_ (by first | (simp; done) | (simp; omega) | omega) _ | refine Ext.trans ?_ (by assumption)))
  clear hs1
  go_wp2_with fail
  refine Calls.mono (spec_l20Draw _ _ cn _ _ Hs1.out) ?_
  rintro e w2 ⟨s, k, n, rfl, hd2, hf, hN⟩
  have hx2 := hd2.old hxw1 (by omega)
  have hz2 := hd2.size
  have hgl := Hs1.out.lt
  have hb2 := HB1.out.drw hd2 (by omega)
  have HN := Lib.hid hN
  obtain ⟨As, cs, rfl, _⟩ := HN.out.1.len
  obtain ⟨Ak, ck, rfl, _⟩ := HN.out.2.len
  obtain ⟨w3, hw3⟩ : ∃ w3 : World, w3 = w2.alloc (.cells #[.slice As n.sets.length cs, .slice Ak n.links.length ck] 27) := ⟨_, rfl⟩
  have hx3 : Ext w2 w3 := by rw [hw3]; exact (by repeat (first | exact Ext.refl _ | assumption | refine Ext.alloc ?_ _ | refine Ext.drew ?_ | refine Ext.drewN ?_ _ | refine Ext.setCell ?_ (by first | (simp; done) | (simp; omega) | omega) _ | refine Ext.trans ?_ (by assumption)))
  have hz3 : w3.heap.size = w2.heap.size + 1 := by rw [hw3]; simp
  have hbn : Boxed w3 w2.heap.size [.slice As n.sets.length cs, .slice Ak n.links.length ck] := by rw [hw3]; exact Boxed.new w2 [.slice As n.sets.length cs, .slice Ak n.links.length ck] 27
  have c0 := hbn.at0
  have c1 := hbn.at1
  have hS3 := Lib.hid (hd2.src.ext hx3)
  have HN3 := Lib.hid ((HN.out.ext hx3 (Nat.le_refl _)).wide (Nat.le_refl _) hx3.size)
  have HB3 := Lib.hid (hb2.ext hx3).drew
  have hm1 : n.sets.length ≤ 1000 := by omega
  clear hd2 hb2 hN hbn
  go_wp2_with fail
  rw [← hw3]
  clear hw3
  have hqg : w.heap.size ≠ w.heap.size + 1 := by omega
  have h02 : 0 < [Value.slice none 0 0, Value.slice none 0 0].length := by simp
  have h12 : 1 < [Value.slice none 0 0, Value.slice none 0 0].length := by simp
  go_region_held3 (fun w' => DrwR w.heap.size (w.heap.size + 1) w.heap.size (.slice A cn c) cn w3 w' ∧ w'.cell? ⟨w2.heap.size, 0, none⟩ = some (.slice As n.sets.length cs) ∧ w'.cell? ⟨w2.heap.size, 1, none⟩ = some (.slice Ak n.links.length ck))
    (exact DrwR.keep2 (by repeat (first | exact DrwR.refl hS3.out | exact (by assumption : DrwR _ _ _ _ _ w3 _ ∧ _).1 | assumption | refine DrwR.drew ?_ | refine DrwR.alloc ?_ _ | refine DrwR.set ?_ (by omega) (by omega) _ _)) (by omega) (by omega) (by omega) c0 c1)
    (first
      | (go_at_call 70; refine Calls.mono (spec_l20DrawVariable _ _ cn _ _ _ _ _ _ (by assumption : DrwR _ _ _ _ _ w3 _ ∧ _).1.src hm1) ?_; rintro e w5 ⟨r5, rfl, -, hd5⟩; have hD5 := (by assumption : DrwR _ _ _ _ _ w3 _ ∧ _).1.drw hd5; have hq5 := Boxed.drw (Hid.out (by assumption : Hid (Boxed _ w.heap.size [.slice none 0 0, .slice none 0 0]))) hd5 hqg; have q0 := hq5.at0; have q1 := hq5.at1; have qf0 := hq5.fz 0 h02; have qf1 := hq5.fz 1 h12; have qz := hq5.1; have Hq5 := Lib.hid hq5; clear hd5 hq5))
  have hR := (by assumption : DrwR _ _ _ _ _ w3 _ ∧ _).1
  have hE := hR.old (show Ext w w3 from hx2.trans hx3) (by omega) (Nat.le_refl _)
  have hM := (hR.net HN3.out (by omega) (by omega)).wide (show w.heap.size ≤ _ by omega) (Nat.le_refl _)
  go_wp2_with fail
  refine bodyPost_ret (v := .tuple #[.agg #[.slice As n.sets.length cs, .slice Ak n.links.length ck], .int .i64 _]) (by simp [results, Tryz.results21, go_sem, *]; exact rfl) rfl ?_
  exact ⟨_, _, n, _, rfl, hE, hM⟩
end Go.Proofs.YtfajmlkiidnhlaaGreat

/- Contracts: a day that is drawn; what FixDay is asked about. -/
namespace Go.Proofs.YtfajmlkiidnhlaaGreat
set_option linter.unusedVariables false
set_option linter.unusedSimpArgs false
open Go.RowKit
attribute [local go_sem] cell_onto

set_option maxRecDepth 100000 in
set_option maxHeartbeats 2000000 in
theorem spec_l01DrawDay (b0 g cn : Nat) (cv : Value) (w : World) (h : Src b0 g cv cn w) : Calls Tryz.prog 79 #[.pointer (some ⟨g, 0, none⟩)] w (DrNum b0 g cv cn (fun _ => True) w) := by
  have hg := h.lt
  have Hs := Lib.hid h
  clear h
  go_enter Tryz.func79, Tryz.ntmps79
  go_wp2_with fail
  refine Calls.mono (spec_l01Next _ _ cn _ 16 _ Hs.out) ?_
  rintro e w2 ⟨r, rfl, -, hd2⟩
  have Hd2 := Lib.hid hd2
  have hz2 := hd2.size
  clear hd2
  by_cases z0 : r = 0
  · subst z0
    have hpk := box_pick (b0 := b0) (g := g) (cn := cn) (cv := cv) [-1, 0, 1, 2, 730498, 730499, 730500] (Boxed.new w2 [.int .i64 (-1), .int .i64 0, .int .i64 1, .int .i64 2, .int .i64 730498, .int .i64 730499, .int .i64 730500] 2) (by simp) (by omega)
    have Hpk := Lib.hid hpk
    clear hpk
    go_wp2_with fail
    refine Calls.mono (spec_l01Pick _ _ cn _ _ [-1, 0, 1, 2, 730498, 730499, 730500] _ (Hd2.out.alloc _).src Hpk.out.1 (by simp) Hpk.out.2) ?_
    rintro e w5 ⟨x, rfl, -, hd5⟩
    have Hd5 := Lib.hid ((Hd2.out.alloc _).trans hd5)
    clear hd5
    go_wp2_with fail
    go_ret
    exact ⟨x, rfl, trivial, Hd5.out⟩
  · have z0' : (r == 0) = false := by simpa using z0
    go_wp2_with fail
    refine Calls.mono (spec_l01Next _ _ cn _ _ _ Hd2.out.src) ?_
    rintro e w3 ⟨x, rfl, -, hd3⟩
    have Hd3 := Lib.hid (Hd2.out.trans hd3)
    clear hd3
    go_wp2_with fail
    go_ret
    exact ⟨x, rfl, trivial, Hd3.out⟩
theorem DrwR.trans {b0 g q cn : Nat} {cv : Value} {w w' w'' : World} (h : DrwR b0 g q cv cn w w') (k : DrwR b0 g q cv cn w' w'') : DrwR b0 g q cv cn w w'' :=
  ⟨h.off.trans k.off, k.src⟩
theorem DrwR.keep3 {b0 g q cn p r i : Nat} {cv a b d : Value} {w w' : World} (h : DrwR b0 g q cv cn w w') (hb : p < w.heap.size) (hg : p ≠ g) (hq : p ≠ q) (c0 : w.cell? ⟨p, 0, none⟩ = some a) (c1 : w.cell? ⟨p, 1, none⟩ = some b)
    (hr : r < w.heap.size) (hrg : r ≠ g) (hrq : r ≠ q) (c2 : w.cell? ⟨r, i, none⟩ = some d) :
    DrwR b0 g q cv cn w w' ∧ w'.cell? ⟨p, 0, none⟩ = some a ∧ w'.cell? ⟨p, 1, none⟩ = some b ∧ w'.cell? ⟨r, i, none⟩ = some d := ⟨h, (h.cell hb hg hq).trans c0, (h.cell hb hg hq).trans c1, (h.cell hr hrg hrq).trans c2⟩
set_option maxRecDepth 100000 in
set_option maxHeartbeats 8000000 in
theorem spec_DrawFixDay (cn : Nat) (cv : Value) (w : World) (h : Bytes w 0 w.heap.size cv cn) : Calls Tryz.prog 27 #[cv] w (DNetXX w) := by
  obtain ⟨A, c, rfl, _⟩ := h.len
  have H := Lib.hid h
  clear h
  have Hb := Lib.hid (Boxed.new w [.slice none 0 0, .slice none 0 0] 27)
  go_enter Tryz.func27, Tryz.ntmps27
  go_wp2_with fail
  refine Calls.mono (spec_l01From cn _ _ (H.out.up (by repeat (first | exact Ext.refl _ | assumption | refine Ext.alloc ?_ _ | refine Ext.drew ?_ | refine Ext.drewN ?_ _ | refine Ext.setCell ?_ (by first | (simp; done) | (simp; omega) | omega) _ | refine Ext.trans ?_ (by assumption))))) ?_
  rintro e w1 ⟨rfl, hx1, hs1⟩
  rw [World.size_alloc] at hs1
  have Hs1 := Lib.hid (hs1.low (b1 := w.heap.size) (by omega) (H.out.ext (by repeat (first | exact Ext.refl _ | assumption | refine Ext.alloc ?_ _ | refine Ext.drew ?_ | refine Ext.drewN ?_ _ | refine Ext.setCell ?_ (by first | (simp; done) | (simp; omega) | omega) _ | refine Ext.trans ?_ (by assumption))) (Nat.le_refl _)))
  have hz1 := hx1.size
  rw [World.size_alloc] at hz1
  have HB1 := Lib.hid (Hb.out.ext hx1)
  have hxw1 : Ext w w1 := (by repeat (first | exact Ext.refl _ | assumption | refine Ext.alloc ?_ _ | refine Ext.drew ?_ | refine Ext.drewN ?_ _ | refine Ext.setCell ?_ (by first | (simp; done) | (simp; omega) | omega) _ | refine Ext.trans ?_ (by assumption)))
  clear hs1
  go_wp2_with fail
  refine Calls.mono (spec_l20Draw _ _ cn _ _ Hs1.out) ?_
  rintro e w2 ⟨s, k, n, rfl, hd2, hf, hN⟩
  have hx2 := hd2.old hxw1 (by omega)
  have hz2 := hd2.size
  have hgl := Hs1.out.lt
  have hb2 := HB1.out.drw hd2 (by omega)
  have HN := Lib.hid hN
  obtain ⟨As, cs, rfl, _⟩ := HN.out.1.len
  obtain ⟨Ak, ck, rfl, _⟩ := HN.out.2.len
  obtain ⟨w3, hw3⟩ : ∃ w3 : World, w3 = w2.alloc (.cells #[.slice As n.sets.length cs, .slice Ak n.links.length ck] 27) := ⟨_, rfl⟩
  have hx3 : Ext w2 w3 := by rw [hw3]; exact (by repeat (first | exact Ext.refl _ | assumption | refine Ext.alloc ?_ _ | refine Ext.drew ?_ | refine Ext.drewN ?_ _ | refine Ext.setCell ?_ (by first | (simp; done) | (simp; omega) | omega) _ | refine Ext.trans ?_ (by assumption)))
  have hz3 : w3.heap.size = w2.heap.size + 1 := by rw [hw3]; simp
  have hbn : Boxed w3 w2.heap.size [.slice As n.sets.length cs, .slice Ak n.links.length ck] := by rw [hw3]; exact Boxed.new w2 [.slice As n.sets.length cs, .slice Ak n.links.length ck] 27
  have c0 := hbn.at0
  have c1 := hbn.at1
  have hS3 := Lib.hid (hd2.src.ext hx3)
  have HN3 := Lib.hid ((HN.out.ext hx3 (Nat.le_refl _)).wide (Nat.le_refl _) hx3.size)
  have HB3 := Lib.hid (hb2.ext hx3)
  have HBN := Lib.hid hbn
  have hm1 : n.sets.length ≤ 1000 := by omega
  clear hd2 hb2 hN hbn
  go_wp2_with fail
  rw [← hw3]
  clear hw3
  have hqg : w.heap.size ≠ w.heap.size + 1 := by omega
  have h02 : 0 < [Value.slice none 0 0, Value.slice none 0 0].length := by simp
  have h12 : 1 < [Value.slice none 0 0, Value.slice none 0 0].length := by simp
  go_wp2_with fail
  refine Calls.mono (spec_l20DrawVariable _ _ cn _ _ _ _ _ w3 hS3.out hm1) ?_
  rintro e w4 ⟨v, rfl, -, hd4⟩
  clear c0 c1
  have hz4 := hd4.size
  have hbn4 := HBN.out.drw hd4 (by omega)
  have c0 := hbn4.at0
  have c1 := hbn4.at1
  have hcg := hbn4.1
  have HN4 := Lib.hid ((DrwR.of (q := w.heap.size) hd4).net HN3.out (by omega) (by omega))
  have Hd4 := Lib.hid hd4
  clear hd4 hbn4
  go_wp2_with fail
  refine Calls.mono (spec_l18DrawDays _ _ cn w1.heap.size w4.heap.size _ _ _ n w4 Hd4.out.src HN4.out.1 (by omega) (Nat.le_refl _) hm1) ?_
  rintro e w5 ⟨dv, ds, rfl, hd5, hds, hrow5⟩
  have hdl : ds.length ≤ 1000 := by have e : ds.length = n.sets.length := hds; omega
  clear hds c0 c1 hcg
  obtain ⟨Ad, cd, rfl⟩ := ownsRow_len hrow5
  have hz5 := hd5.size
  have Hr5 := Lib.hid hrow5
  have Hd5 := Lib.hid (Hd4.out.trans hd5)
  have hbn5 := HBN.out.drw Hd5.out (by omega)
  have c0 := hbn5.at0
  have c1 := hbn5.at1
  have hcg := hbn5.1
  clear hd5 hrow5 hbn5
  go_wp2_with fail
  by_cases hv : 0 ≤ v ∧ v ≤ (ds.length : Int) - 1
  · refine Calls.mono (spec_l01In_b (B_true hv) _) ?_
    rintro e w' ⟨rfl, rfl⟩
    go_wp2_with fail
    refine Calls.mono (spec_l01Next _ _ cn _ 8 _ Hd5.out.src) ?_
    rintro e w6 ⟨r, rfl, -, hd6⟩
    have hz6 := hd6.size
    have Hd6 := Lib.hid (Hd5.out.trans hd6)
    have hbn6 := HBN.out.drw Hd6.out (by omega)
    clear c0 c1 hcg
    have c0 := hbn6.at0
    have c1 := hbn6.at1
    have hcg := hbn6.1
    have Hr6 := Lib.hid (ownsRow_drw Hr5.out hd6 (by omega))
    clear hd6 hbn6
    by_cases hr : 0 < r
    · obtain ⟨vn, rfl⟩ := Int.eq_ofNat_of_zero_le hv.1
      have hvn : vn < ds.length := by omega
      have hv1 : (vn : Int) < (ds.length : Int) := by omega
      have hv0 : (0 : Int) ≤ (vn : Int) := by omega
      obtain ⟨gd, hgd, ho⟩ := Own.of_owned Hr6.out
      obtain ⟨off, rfl, hgz, hcell⟩ := ho.at_ (by omega)
      have hgd' := (hgd (by omega)).2
      have c2 : w6.cell? ⟨gd, off + vn, none⟩ = some (.int .i64 (inAt ds vn)) := (hcell vn (by omega)).1
      have hbq := HB3.out.drw Hd6.out (by omega)
      have q0 := hbq.at0
      have q1 := hbq.at1
      have qf0 := hbq.fz 0 h02
      have qf1 := hbq.fz 1 h12
      have qz := hbq.1
      have hSW := Lib.hid Hd6.out.src
      clear hbq ho hcell hgd
      go_wp2_with fail
      go_region_held3 (fun w' => DrwR w.heap.size (w.heap.size + 1) w.heap.size (.slice A cn c) cn w6 w' ∧ w'.cell? ⟨w2.heap.size, 0, none⟩ = some (.slice As n.sets.length cs) ∧ w'.cell? ⟨w2.heap.size, 1, none⟩ = some (.slice Ak n.links.length ck) ∧ w'.cell? ⟨gd, off + vn, none⟩ = some (.int .i64 (inAt ds vn)))
        (exact DrwR.keep3 (by repeat (first | exact DrwR.refl hSW.out | exact (by assumption : DrwR _ _ _ _ _ w6 _ ∧ _).1 | assumption | refine DrwR.drew ?_ | refine DrwR.alloc ?_ _ | refine DrwR.set ?_ (by omega) (by omega) _ _)) (by omega) (by omega) (by omega) c0 c1 (by omega) (by omega) (by omega) c2)
        (fail)
      have hR := (by assumption : DrwR _ _ _ _ _ w6 _ ∧ _).1
      have hRR : DrwR w.heap.size (w.heap.size + 1) w.heap.size (.slice A cn c) cn w3 _ := (DrwR.of Hd6.out).trans hR
      have hE := hRR.old (show Ext w w3 from hx2.trans hx3) (by omega) (Nat.le_refl _)
      have hM := (hRR.net HN3.out (by omega) (by omega)).wide (show w.heap.size ≤ _ by omega) (Nat.le_refl _)
      go_wp2_with fail
      refine bodyPost_ret (v := .tuple #[.agg #[.slice As n.sets.length cs, .slice Ak n.links.length ck], .int .i64 _, .int .i64 _]) (by simp [results, Tryz.results27, go_sem, *]; exact ⟨rfl, rfl⟩) rfl ?_
      exact ⟨_, _, n, _, _, rfl, hE, hM⟩
    · have hr0 : ¬ r > 0 := hr
      have HBq := Lib.hid (HB3.out.drw Hd6.out (by omega)).drew
      have hSW := Lib.hid Hd6.out.src
      go_wp2_with fail
      go_region_held3 (fun w' => DrwR w.heap.size (w.heap.size + 1) w.heap.size (.slice A cn c) cn w6 w' ∧ w'.cell? ⟨w2.heap.size, 0, none⟩ = some (.slice As n.sets.length cs) ∧ w'.cell? ⟨w2.heap.size, 1, none⟩ = some (.slice Ak n.links.length ck))
        (exact DrwR.keep2 (by repeat (first | exact DrwR.refl hSW.out | exact (by assumption : DrwR _ _ _ _ _ w6 _ ∧ _).1 | assumption | refine DrwR.drew ?_ | refine DrwR.alloc ?_ _ | refine DrwR.set ?_ (by omega) (by omega) _ _)) (by omega) (by omega) (by omega) c0 c1)
        (first
          | (go_at_call 79; refine Calls.mono (spec_l01DrawDay _ _ cn _ _ (by assumption : DrwR _ _ _ _ _ w6 _ ∧ _).1.src) ?_; rintro e w8 ⟨r8, rfl, -, hd8⟩; have hD8 := (by assumption : DrwR _ _ _ _ _ w6 _ ∧ _).1.drw hd8; have hq8 := Boxed.drw (Hid.out (by assumption : Hid (Boxed _ w.heap.size [.slice none 0 0, .slice none 0 0]))) hd8 hqg; have q0 := hq8.at0; have q1 := hq8.at1; have qf0 := hq8.fz 0 h02; have qf1 := hq8.fz 1 h12; have qz := hq8.1; have Hq8 := Lib.hid hq8; clear hd8 hq8))
      have hR := (by assumption : DrwR _ _ _ _ _ w6 _ ∧ _).1
      have hRR : DrwR w.heap.size (w.heap.size + 1) w.heap.size (.slice A cn c) cn w3 _ := (DrwR.of Hd6.out).trans hR
      have hE := hRR.old (show Ext w w3 from hx2.trans hx3) (by omega) (Nat.le_refl _)
      have hM := (hRR.net HN3.out (by omega) (by omega)).wide (show w.heap.size ≤ _ by omega) (Nat.le_refl _)
      go_wp2_with fail
      refine bodyPost_ret (v := .tuple #[.agg #[.slice As n.sets.length cs, .slice Ak n.links.length ck], .int .i64 _, .int .i64 _]) (by simp [results, Tryz.results27, go_sem, *]; exact ⟨rfl, rfl⟩) rfl ?_
      exact ⟨_, _, n, _, _, rfl, hE, hM⟩
  · refine Calls.mono (spec_l01In_b (B_false hv) _) ?_
    rintro e w' ⟨rfl, rfl⟩
    have HBq := Lib.hid (HB3.out.drw Hd5.out (by omega)).drew
    have hSW := Lib.hid Hd5.out.src
    go_wp2_with fail
    go_region_held3 (fun w' => DrwR w.heap.size (w.heap.size + 1) w.heap.size (.slice A cn c) cn w5 w' ∧ w'.cell? ⟨w2.heap.size, 0, none⟩ = some (.slice As n.sets.length cs) ∧ w'.cell? ⟨w2.heap.size, 1, none⟩ = some (.slice Ak n.links.length ck))
      (exact DrwR.keep2 (by repeat (first | exact DrwR.refl hSW.out | exact (by assumption : DrwR _ _ _ _ _ w5 _ ∧ _).1 | assumption | refine DrwR.drew ?_ | refine DrwR.alloc ?_ _ | refine DrwR.set ?_ (by omega) (by omega) _ _)) (by omega) (by omega) (by omega) c0 c1)
      (first
        | (go_at_call 79; refine Calls.mono (spec_l01DrawDay _ _ cn _ _ (by assumption : DrwR _ _ _ _ _ w5 _ ∧ _).1.src) ?_; rintro e w8 ⟨r8, rfl, -, hd8⟩; have hD8 := (by assumption : DrwR _ _ _ _ _ w5 _ ∧ _).1.drw hd8; have hq8 := Boxed.drw (Hid.out (by assumption : Hid (Boxed _ w.heap.size [.slice none 0 0, .slice none 0 0]))) hd8 hqg; have q0 := hq8.at0; have q1 := hq8.at1; have qf0 := hq8.fz 0 h02; have qf1 := hq8.fz 1 h12; have qz := hq8.1; have Hq8 := Lib.hid hq8; clear hd8 hq8))
    have hR := (by assumption : DrwR _ _ _ _ _ w5 _ ∧ _).1
    have hRR : DrwR w.heap.size (w.heap.size + 1) w.heap.size (.slice A cn c) cn w3 _ := (DrwR.of Hd5.out).trans hR
    have hE := hRR.old (show Ext w w3 from hx2.trans hx3) (by omega) (Nat.le_refl _)
    have hM := (hRR.net HN3.out (by omega) (by omega)).wide (show w.heap.size ≤ _ by omega) (Nat.le_refl _)
    go_wp2_with fail
    refine bodyPost_ret (v := .tuple #[.agg #[.slice As n.sets.length cs, .slice Ak n.links.length ck], .int .i64 _, .int .i64 _]) (by simp [results, Tryz.results27, go_sem, *]; exact ⟨rfl, rfl⟩) rfl ?_
    exact ⟨_, _, n, _, _, rfl, hE, hM⟩
end Go.Proofs.YtfajmlkiidnhlaaGreat
