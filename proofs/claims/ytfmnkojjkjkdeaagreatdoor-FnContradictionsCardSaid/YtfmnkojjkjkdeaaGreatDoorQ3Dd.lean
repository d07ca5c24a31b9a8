/- Contract: a network is drawn. -/
import Derived.Test.YtfmnkojjkjkdeaaGreatDoorQ3Dc
import Derived.Test.YtfmnkojjkjkdeaaGreatDoorQ3Dp
import Derived.Test.YtfmnkojjkjkdeaaGreatDoorQ3Rj
namespace Go.Proofs.YtfmnkojjkjkdeaaGreatDoor
set_option linter.unusedVariables false
set_option linter.unusedSimpArgs false
open Go.RowKit
attribute [local go_sem] cell_onto

theorem link_cells4 (a b c d : Int) : ∀ i, i < 4 → [Value.int .i64 a, .int .i64 b, .int .i64 c, .int .i64 d][i]? = some (linkCell [⟨a, b, c, d⟩] i)
  | 0, _ => rfl
  | 1, _ => rfl
  | 2, _ => rfl
  | 3, _ => rfl
  | i + 4, h => absurd h (by omega)
/-- the slots lo, lo + 1, .. written -/
def puts (lo : Nat) (a : Act) (E : Nat → Value) : Nat → Act
  | 0 => a
  | n + 1 => (puts lo a E n).put (some (lo + n)) (E (lo + n))
theorem puts_defers (lo : Nat) (a : Act) (E : Nat → Value) : ∀ n, (puts lo a E n).defers = a.defers
  | 0 => rfl
  | n + 1 => puts_defers lo a E n
theorem puts_get (lo : Nat) (a : Act) (E : Nat → Value) : ∀ n, (puts lo a E n).tmps.size = a.tmps.size ∧ ∀ i, (puts lo a E n).tmps[i]? = if lo ≤ i ∧ i < lo + n ∧ i < a.tmps.size then some (E i) else a.tmps[i]? := by
  intro n
  induction n with
  | zero => exact ⟨rfl, fun i => by rw [if_neg (by omega)]; rfl⟩
  | succ n ih =>
    obtain ⟨h1, h2⟩ := ih
    refine ⟨by simpa [puts, Act.put] using h1, fun i => ?_⟩
    show ((puts lo a E n).tmps.setIfInBounds (lo + n) (E (lo + n)))[i]? = _
    by_cases e : lo + n = i
    · subst e
      by_cases hz : lo + n < a.tmps.size
      · rw [if_pos (by omega), Array.getElem?_setIfInBounds_self_of_lt (by omega)]
      · rw [if_neg (by omega), Array.getElem?_eq_none (by rw [Array.size_setIfInBounds]; omega), Array.getElem?_eq_none (by omega)]
    · rw [Array.getElem?_setIfInBounds_ne e, h2]
      by_cases hc : lo ≤ i ∧ i < lo + n ∧ i < a.tmps.size
      · rw [if_pos hc, if_pos (by omega)]
      · rw [if_neg hc, if_neg (by omega)]
theorem like_puts {lo hi : Nat} {a0 a1 : Act} (h : LikeA lo hi a0 a1) (n : Nat) (hn : hi + 1 = lo + n) : a1 = puts lo a0 (fun k => a1.eval (.tmp k)) n := by
  have h1 := h.1
  have h2 := h.2.1
  have h3 := h.2.2
  clear h
  have e : a1.tmps = (puts lo a0 (fun k => a1.eval (.tmp k)) n).tmps := by
    refine Array.ext_getElem? (fun i => ?_)
    rw [(puts_get lo a0 _ n).2 i]
    by_cases hc : lo ≤ i ∧ i < lo + n ∧ i < a0.tmps.size
    · rw [if_pos hc]
      have : i < a1.tmps.size := by omega
      simp [Act.eval, this]
    · rw [if_neg hc]
      by_cases hc2 : lo ≤ i ∧ i ≤ hi
      · have : ¬ i < a0.tmps.size := fun hh => hc ⟨hc2.1, by omega, hh⟩
        rw [Array.getElem?_eq_none (by omega), Array.getElem?_eq_none (by omega)]
      · exact h3 i hc2
  have e2 := puts_defers lo a0 (fun k => a1.eval (.tmp k)) n
  generalize puts lo a0 (fun k => a1.eval (.tmp k)) n = q at e e2
  cases a1 with
  | mk t1 d1 =>
  cases q with
  | mk t2 d2 =>
  simp only at e e2 h1
  rw [e, e2, h1]
def PkPost (b0 g : Nat) (cv : Value) (cn : Nat) (w3 W : World) (e : Ending) (w' : World) : Prop :=
  ∃ r : Int, e = .returned (.int .i64 r) ∧ Drw b0 g cv cn w3 w' ∧ Off (One g) W w'
theorem ints_cells {W : World} {gb N : Nat} (l : List Int) (hn : l.length = N) (hl : N ≤ 4096) (hb : gb < W.heap.size) (h : ∀ i, i < l.length → W.cell? ⟨gb, i, none⟩ = some (.int .i64 (inAt l i))) : Ints W 0 W.heap.size (.slice (some ⟨gb, 0, none⟩) N N) l := by
  subst hn
  exact ⟨by unfold maxLen; omega, _, _, rfl, Nat.le_refl _, fun _ => ⟨gb, 0, rfl, Nat.zero_le _, hb, fun i hi => by
    have hi' : i < l.length := by omega
    rw [Nat.zero_add]
    exact h i hi'⟩⟩
theorem pickN {b0 g cn N : Nat} {cv : Value} {w3 W : World} {ga : Nat} {l : List Int} (hn : l.length = N) (h0 : 0 < N) (hl : N ≤ 4096) (hd : Drw b0 g cv cn w3 W) (hg3 : g < w3.heap.size) (hne : w3.heap.size ≤ ga) (hb : ga < W.heap.size)
    (h : ∀ i, i < l.length → W.cell? ⟨ga, i, none⟩ = some (.int .i64 (inAt l i))) : Calls Tryz.prog 77 #[.pointer (some ⟨g, 0, none⟩), .slice (some ⟨ga, 0, none⟩) N N] W (PkPost b0 g cv cn w3 W) := by
  refine Calls.mono (spec_l01Pick b0 g cn cv _ l W hd.src (ints_cells l hn hl hb h) (by omega) (fun w' hw => ints_cells l hn hl (Nat.lt_of_lt_of_le hb hw.size) (fun i hi => (hw.cell hb (by omega)).trans (h i hi)))) ?_
  rintro e w' ⟨r, rfl, _, hd'⟩
  exact ⟨r, rfl, hd.trans hd', hd'.off⟩
set_option maxRecDepth 100000 in
set_option maxHeartbeats 16000000 in
theorem spec_l18Draw (b0 g cn : Nat) (cv : Value) (w : World) (h : Src b0 g cv cn w) : Calls Tryz.prog 123 #[.pointer (some ⟨g, 0, none⟩)] w (DrNet b0 g cv cn 118 w) := by
  have Hs := Lib.hid h
  have hg := h.lt
  obtain ⟨w0, hw0⟩ : ∃ w0 : World, w0 = ((((w.alloc (.cells #[.slice none 0 0, .slice none 0 0] 27)).alloc (.cells #[] 48)).alloc (.cells #[] 118)).alloc (.cells #[.slice (some ⟨w.heap.size + 1, 0, none⟩) 0 0, .slice (some ⟨w.heap.size + 1 + 1, 0, none⟩) 0 0] 27)) := ⟨_, rfl⟩
  have hx0 : Ext w w0 := by rw [hw0]; exact (by repeat (first | exact Ext.refl _ | assumption | refine Ext.alloc ?_ _ | refine Ext.drew ?_ | refine Ext.drewN ?_ _ | refine Ext.setCell ?_ (by first | (simp; done) | (simp; omega) | omega) _ | refine Ext.trans ?_ (by assumption)))
  have hz0 : w0.heap.size = w.heap.size + 1 + 1 + 1 + 1 := by rw [hw0]; simp
  have hr0 : Boxed w0 w.heap.size [.slice none 0 0, .slice none 0 0] := by rw [hw0]; exact (Boxed.new w [.slice none 0 0, .slice none 0 0] 27).ext (by repeat (first | exact Ext.refl _ | assumption | refine Ext.alloc ?_ _ | refine Ext.drew ?_ | refine Ext.drewN ?_ _ | refine Ext.setCell ?_ (by first | (simp; done) | (simp; omega) | omega) _ | refine Ext.trans ?_ (by assumption)))
  have hb0 : Boxed w0 (w.heap.size + 1 + 1 + 1) [.slice (some ⟨w.heap.size + 1, 0, none⟩) 0 0, .slice (some ⟨w.heap.size + 1 + 1, 0, none⟩) 0 0] := by
    have := Boxed.new (((w.alloc (.cells #[.slice none 0 0, .slice none 0 0] 27)).alloc (.cells #[] 48)).alloc (.cells #[] 118)) [.slice (some ⟨w.heap.size + 1, 0, none⟩) 0 0, .slice (some ⟨w.heap.size + 1 + 1, 0, none⟩) 0 0] 27
    simp only [World.size_alloc] at this
    rw [hw0]
    exact this
  obtain ⟨f0, hf0⟩ := SetsP.of_empty (T := 48) (w := w0) (lo := w.heap.size + 1 + 1 + 1 + 1) (P := fun k => w.heap.size + 1 + 1 + 1 + 1 ≤ k) (v := .slice (some ⟨w.heap.size + 1, 0, none⟩) 0 0) (.inr ⟨rfl, rfl, ⟨_, rfl⟩, fun k hk => (by have e := hk; simp [Value.ownBlock] at e; omega)⟩)
  have HA0 := Lib.hid (show DnA b0 g cn cv 48 w w.heap.size (w.heap.size + 1 + 1 + 1) (.slice (some ⟨w.heap.size + 1 + 1, 0, none⟩) 0 0) (.slice (some ⟨w.heap.size + 1, 0, none⟩) 0 0) [] f0 w0 from ⟨(Drw.refl h).ext hx0, hr0, hb0, hf0, fun i hi => absurd hi (by simp)⟩)
  have Hw0 := Lib.hid hw0
  have Hz0 := Lib.hid hz0
  clear h hw0 hx0 hr0 hb0 hf0 hz0
  go_enter Tryz.func123, Tryz.ntmps123
  go_wp2_with fail
  rw [← Hw0.out]
  refine Calls.mono (spec_l01Next b0 g cn cv 5 _ HA0.out.drw.src) ?_
  rintro e w1 ⟨r, rfl, ⟨r0, r1, _⟩, hd1⟩
  have hr := r1 (by omega)
  obtain ⟨k, rfl⟩ := Int.eq_ofNat_of_zero_le r0
  have HA1 := Lib.hid (show DnA b0 g cn cv 48 w w.heap.size (w.heap.size + 1 + 1 + 1) (.slice (some ⟨w.heap.size + 1 + 1, 0, none⟩) 0 0) (.slice (some ⟨w.heap.size + 1, 0, none⟩) 0 0) [] f0 w1 from
    ⟨HA0.out.drw.trans hd1, HA0.out.res.drw hd1 (by omega), HA0.out.box.drw hd1 (by omega), HA0.out.sets.off hd1.off (fun k hk hh => by have e : k = g := hh; omega), HA0.out.few⟩)
  clear r1 hd1 HA0 Hw0
  go_wp2_with fail
  go_loopg [4] k (fun q u4 wr => ∃ (l : List (List Sp)) (sv : Value) (f : Nat → Value), u4 = .int .i64 q ∧ q + l.length ≤ 4 ∧ Hid (DnA b0 g cn cv 48 w w.heap.size (w.heap.size + 1 + 1 + 1) (.slice (some ⟨w.heap.size + 1 + 1, 0, none⟩) 0 0) sv l f wr))
  case atStart => exact ⟨[], _, f0, rfl, by simp; omega, HA1⟩
  clear HA1
  case round =>
    obtain ⟨l, sv, f, rfl, hq, HA⟩ := hrel
    have bb0 := HA.out.box.at0
    have bbg := HA.out.box.1
    have bbf := HA.out.box.fz 0 (by simp)
    obtain ⟨As, cs, rfl⟩ := HA.out.sets.1.len
    by_cases hk0 : 0 < gk
    · have hki : (0 : Int) < (gk : Int) := by omega
      have hle : gk + l.length ≤ 4 := hq
      go_wp2_with fail
      go_region_law (first
        | (refine step_append_row rfl (.tmp 21) (.tmp 25) 24 rfl (w.heap.size + 1 + 1 + 1 + 1) 48 1 24 Tryz.underlying24 (by kernel_rfl) (by omega) _ l.length 1 _ rfl (((HA.out.sets.off Hd2.out.off (fun k hk hh => by have e : k = g := hh; omega)).ext (show Ext w2 _ from (by repeat (first | exact Ext.refl _ | assumption | refine Ext.alloc ?_ _ | refine Ext.drew ?_ | refine Ext.drewN ?_ _ | refine Ext.setCell ?_ (by first | (simp; done) | (simp; omega) | omega) _ | refine Ext.trans ?_ (by assumption))))).1.dst) (.inr (by omega)) 0 _ _ (fun _ => .slice Au (mkL m).length cu) rfl (((Boxed.new w3 [.slice Au (mkL m).length cu] 48).ext (by repeat (first | exact Ext.refl _ | assumption | refine Ext.alloc ?_ _ | refine Ext.drew ?_ | refine Ext.drewN ?_ _ | refine Ext.setCell ?_ (by first | (simp; done) | (simp; omega) | omega) _ | refine Ext.trans ?_ (by assumption)))).row1) (fun _ _ => rfl) (by unfold maxLen; omega) (by omega) (by have := Hd2.out.size; have := hx3.size; simp; omega) ?_; intro v4 w4 hown4 hput4; obtain ⟨Av4, cv4, rfl⟩ := ownsRow_len hown4; have hb4 := (((HA.out.box.drw Hd2.out (by omega)).ext (show Ext w2 _ from (by repeat (first | exact Ext.refl _ | assumption | refine Ext.alloc ?_ _ | refine Ext.drew ?_ | refine Ext.drewN ?_ _ | refine Ext.setCell ?_ (by first | (simp; done) | (simp; omega) | omega) _ | refine Ext.trans ?_ (by assumption))))).off hput4.1 (fun hh => by have := hh.1; omega)); have b40 := hb4.at0; have b4f := hb4.fz 0 (by simp); have Hst := Lib.hid (HA.out.push (s := mkL m) hg (Nat.le_refl _) (by omega) Hd2.out (show Ext w2 _ from (by repeat (first | exact Ext.refl _ | assumption | refine Ext.alloc ?_ _ | refine Ext.drew ?_ | refine Ext.drewN ?_ _ | refine Ext.setCell ?_ (by first | (simp; done) | (simp; omega) | omega) _ | refine Ext.trans ?_ (by assumption)))) (row_ext hr3 (by repeat (first | exact Ext.refl _ | assumption | refine Ext.alloc ?_ _ | refine Ext.drew ?_ | refine Ext.drewN ?_ _ | refine Ext.setCell ?_ (by first | (simp; done) | (simp; omega) | omega) _ | refine Ext.trans ?_ (by assumption)))) (Nat.le_refl _) (by omega) hput4 hown4); clear hb4 hown4 hput4)
        | (go_simp; go_at_call 191; refine Calls.mono (spec_l02DrawSpans b0 g cn cv 400000 _ (HA.out.drw.src.ext (by repeat (first | exact Ext.refl _ | assumption | refine Ext.alloc ?_ _ | refine Ext.drew ?_ | refine Ext.drewN ?_ _ | refine Ext.setCell ?_ (by first | (simp; done) | (simp; omega) | omega) _ | refine Ext.trans ?_ (by assumption)))) (by omega) (by omega)) ?_; rintro e w2 ⟨v2, m, rfl, hd2, hm5, hbd, hrow⟩; obtain ⟨A2, c2, rfl⟩ := ownsRow_len hrow; have Hd2 := Lib.hid (Drw.pre (show Ext wr _ from (by repeat (first | exact Ext.refl _ | assumption | refine Ext.alloc ?_ _ | refine Ext.drew ?_ | refine Ext.drewN ?_ _ | refine Ext.setCell ?_ (by first | (simp; done) | (simp; omega) | omega) _ | refine Ext.trans ?_ (by assumption)))) hd2); have hb2 := HA.out.box.drw Hd2.out (by omega); have b20 := hb2.at0; have b2g := hb2.1; have b2f := hb2.fz 0 (by simp); have Hsp := Lib.hid (rowSpans hrow); have Hbd := Lib.hid hbd; have hmk : (mkL m).length ≤ 5 := Nat.le_trans (mkL_len m) hm5; clear hb2 hd2 hbd hrow)
        | (go_simp; go_at_call 154; refine Calls.mono (spec_l02Make _ m _ (Hsp.out.up (by repeat (first | exact Ext.refl _ | assumption | refine Ext.alloc ?_ _ | refine Ext.drew ?_ | refine Ext.drewN ?_ _ | refine Ext.setCell ?_ (by first | (simp; done) | (simp; omega) | omega) _ | refine Ext.trans ?_ (by assumption)))) (by omega) Hbd.out) ?_; rintro e w3 ⟨v3, rfl, hx3, hr3⟩; obtain ⟨Au, cu, rfl⟩ := ownsRow_len hr3; have hb3 := (HA.out.box.drw Hd2.out (by omega)).ext (show Ext w2 w3 from (by repeat (first | exact Ext.refl _ | assumption | refine Ext.alloc ?_ _ | refine Ext.drew ?_ | refine Ext.drewN ?_ _ | refine Ext.setCell ?_ (by first | (simp; done) | (simp; omega) | omega) _ | refine Ext.trans ?_ (by assumption)))); have b30 := hb3.at0; have b3g := hb3.1; have b3f := hb3.fz 0 (by simp); clear hb3))
      all_goals
        obtain ⟨f', hst⟩ := Hst.out
        have Hst' := Lib.hid hst
        clear hst Hst
        go_wp2_with fail
        go_roundg (gk - 1)
        case measure => omega
        case rel => exact ⟨l ++ [mkL m], _, f', by rw [Int.ofNat_sub (by omega)]; rfl, by simp; omega, Hst'⟩
    · obtain rfl : gk = 0 := by omega
      have hl4 : l.length ≤ 4 := by omega
      have bb1 := HA.out.box.at1
      have hzA := HA.out.drw.size
      go_wp2_with fail
      refine Calls.mono (spec_l18DrawDays b0 g cn (w.heap.size + 1 + 1 + 1 + 1) wr.heap.size cv _ _ ⟨l, []⟩ _ HA.out.drw.src (HA.out.sets.sets (Nat.le_refl _) (fun k hk => hk)) (by omega) (Nat.le_refl _) (by show l.length ≤ 1000; omega)) ?_
      rintro e w2 ⟨dv, ds, rfl, hd2, hds, hdr⟩
      have hds' : ds.length = l.length := hds
      have hdrow : Row w2 wr.heap.size w2.heap.size 1 dv l.length (intCell ds) := by
        obtain ⟨gd, h1, h2⟩ := Own.of_owned hdr
        rw [hds'] at h1 h2
        exact h2.row (fun h0 => ⟨(h1 h0).2, h2.lt h0⟩)
      obtain ⟨_, Ad, cd, rfl, hcd, hcells⟩ := id hdrow
      have HB0 := Lib.hid (show DnB b0 g cn cv 48 118 w w.heap.size (w.heap.size + 1 + 1 + 1) wr.heap.size w2.heap.size (.slice (some ⟨w.heap.size + 1 + 1, 0, none⟩) 0 0) (.slice As l.length cs) (.slice Ad l.length cd) l f ds [] w2 from
        ⟨HA.out.drw.trans hd2, HA.out.res.drw hd2 (by omega), HA.out.box.drw hd2 (by omega), HA.out.sets.now.off hd2.off (fun k hk hh => by have e : k = g := hh; have := hk.1; omega), HA.out.few,
          .inr ⟨rfl, rfl, ⟨_, rfl⟩, fun k hk => by
            have e : w.heap.size + 1 + 1 = k := by simpa [Value.ownBlock] using hk
            have := hd2.size
            omega⟩, hdrow, by omega, hd2.size, Nat.le_refl _⟩)
      have hz2 := hd2.size
      generalize wr.heap.size = hi at *
      obtain ⟨hd, hhd⟩ : ∃ hd, w2.heap.size = hd := ⟨_, rfl⟩
      rw [hhd] at HB0 hz2
      clear hdrow hdr hds hd2 bb0 bb1 bbg bbf HA hzA hhd
      go_wp2_with fail
      refine Calls.mono (spec_l01Next b0 g cn cv 5 _ HB0.out.drw.src) ?_
      rintro e w3 ⟨r', rfl, ⟨t0, t1, _⟩, hd3⟩
      have ht := t1 (by omega)
      obtain ⟨k2, rfl⟩ := Int.eq_ofNat_of_zero_le t0
      have HB1 := Lib.hid (HB0.out.step hg (Nat.le_refl _) (by omega) hd3)
      clear t1 hd3 HB0
      go_wp2_with fail
      go_loopg [7] k2 (fun q u7 wr => ∃ (m : List Lk) (kv : Value), u7 = .int .i64 q ∧ q + m.length ≤ 4 ∧ Hid (DnB b0 g cn cv 48 118 w w.heap.size (w.heap.size + 1 + 1 + 1) hi hd kv (.slice As l.length cs) (.slice Ad l.length cd) l f ds m wr))
      case atStart => exact ⟨[], _, rfl, by simp; omega, HB1⟩
      clear HB1
      case round =>
        obtain ⟨m, kv, rfl, hq2, HB⟩ := hrel
        by_cases hgo : 0 < gk ∧ 1 < l.length
        · obtain ⟨hk0, hc1⟩ := hgo
          have hki : (0 : Int) < (gk : Int) := by omega
          have hci : (1 : Int) < (l.length : Int) := by omega
          have hle : gk + m.length ≤ 4 := hq2
          obtain ⟨bd, od, rfl, hd1, hd2, _⟩ := hcells (by omega)
          go_wp2_with fail
          refine Calls.mono (spec_l01Next b0 g cn cv l.length _ HB.out.drw.src) ?_
          rintro e wa ⟨ra, rfl, hba, hda⟩
          obtain ⟨a, rfl⟩ := Int.eq_ofNat_of_zero_le hba.1
          have ha := hba.nat (by omega)
          have HBa := Lib.hid (HB.out.step hg (Nat.le_refl _) (by omega) hda)
          clear hba hda
          go_wp2_with fail
          refine Calls.mono (spec_l01Next b0 g cn cv _ _ HBa.out.drw.src) ?_
          rintro e w4 ⟨rb, rfl, hbb, hdb⟩
          have hrb0 : 0 ≤ rb := hbb.1
          have hrb1 : rb ≤ 4 := by
            by_cases h1 : 1 < (l.length : Int) - 1
            · have := hbb.2.1 h1; omega
            · have := hbb.2.2 (by omega); omega
          have HB2 := Lib.hid (HBa.out.step hg (Nat.le_refl _) (by omega) hdb)
          have hb0' : 0 ≤ ((a : Int) + 1 + rb) % (l.length : Int) := Int.emod_nonneg _ (by omega)
          have hb1' : ((a : Int) + 1 + rb) % (l.length : Int) < (l.length : Int) := Int.emod_lt_of_pos _ (by omega)
          obtain ⟨b, hbe⟩ : ∃ b : Nat, ((a : Int) + 1 + rb) % (l.length : Int) = (b : Int) := Int.eq_ofNat_of_zero_le hb0'
          have Hbe := Lib.hid hbe
          have hbl : b < l.length := by omega
          have hz4 := HB2.out.h3
          have hgw4 := HB2.out.drw.size
          have hng : w4.heap.size ≠ g := by omega
          have hne5 : ∀ x, w4.heap.size ≤ x → x ≠ g := fun x hx => by omega
          have Hne5 := Lib.hid hne5
          have h04 : 0 < [Value.int .i64 0, .int .i64 0, .int .i64 0, .int .i64 0].length := by simp
          have h14 : 1 < [Value.int .i64 0, .int .i64 0, .int .i64 0, .int .i64 0].length := by simp
          have h24 : 2 < [Value.int .i64 0, .int .i64 0, .int .i64 0, .int .i64 0].length := by simp
          have h34 : 3 < [Value.int .i64 0, .int .i64 0, .int .i64 0, .int .i64 0].length := by simp
          have hai : (a : Int) < (l.length : Int) := by omega
          have ha0 : (0 : Int) ≤ (a : Int) := by omega
          have hbi : (b : Int) < (l.length : Int) := by omega
          have hb0 : (0 : Int) ≤ (b : Int) := by omega
          have HS : Hid (∀ w', Drw b0 g cv cn w4 w' → w'.cell? ⟨bd, od + b, none⟩ = some (.int .i64 (inAt ds b)) ∧ w'.cell? ⟨bd, od + a, none⟩ = some (.int .i64 (inAt ds a))) := Lib.hid (fun w' hx => by
            obtain ⟨_, A', c', e', _, hr'⟩ := (HB2.out.step hg (Nat.le_refl _) (by omega) hx).days
            obtain ⟨b', o', e2, _, _, hc'⟩ := hr' (by omega)
            injection e' with e3 _ _
            rw [e2] at e3
            injection e3 with e3
            injection e3 with e4 e5
            subst e4 e5
            exact ⟨hc' b (by omega), hc' a (by omega)⟩)
          clear HB HBa hbb hdb hb0' hb1' hbe hne5
          have tok1 : True := trivial
          go_wp2_with fail
          rw [Hbe.out]
          go_upto_region 13 with fail
          go_cut [10] (fun p wy => ∃ (gl : Nat) (x y : Int), p = .pointer (some ⟨gl, 0, none⟩) ∧ w4.heap.size ≤ gl ∧ Hid (Boxed wy gl [.int .i64 (a : Int), .int .i64 b, .int .i64 x, .int .i64 y]) ∧ Hid (Drw b0 g cv cn w4 wy))
          case first =>
            go_wp2_with fail
            go_region_held3 (fun w' => w'.cell? ⟨bd, od + b, none⟩ = some (.int .i64 (inAt ds b)) ∧ w'.cell? ⟨bd, od + a, none⟩ = some (.int .i64 (inAt ds a)))
              (exact HS.out _ (by repeat (first | exact Hd6.out | exact Hd5.out | exact Drw.refl HB2.out.drw.src | refine Drw.alloc ?_ _ | refine Drw.drew ?_ | refine Drw.drewN ?_ _ | refine Drw.setCell ?_ (by first | (simp; done) | (simp; omega) | omega) (by first | (simp; done) | (simp; omega) | omega) _)))
              (first
                | (have _t := tok1; go_simp; go_at_call 54; refine Calls.mono (spec_l01Next b0 g cn cv _ _ (HB2.out.drw.src.ext (by repeat (first | exact Ext.refl _ | assumption | refine Ext.alloc ?_ _ | refine Ext.drew ?_ | refine Ext.drewN ?_ _ | refine Ext.setCell ?_ (by first | (simp; done) | (simp; omega) | omega) _ | refine Ext.trans ?_ (by assumption))))) ?_; rintro e w5 ⟨r5, rfl, -, hd5⟩; have Hd5 := Lib.hid (Drw.pre (show Ext w4 _ from (by repeat (first | exact Ext.refl _ | assumption | refine Ext.alloc ?_ _ | refine Ext.drew ?_ | refine Ext.drewN ?_ _ | refine Ext.setCell ?_ (by first | (simp; done) | (simp; omega) | omega) _ | refine Ext.trans ?_ (by assumption)))) hd5); (first | (have hpre : Drw b0 g cv cn (w4.alloc (.cells #[.int .i64 0, .int .i64 0, .int .i64 0, .int .i64 0] 118)) w5 := Drw.pre (Ext.drew (Ext.refl _)) hd5; have sx := (Boxed.new w4 [.int .i64 0, .int .i64 0, .int .i64 0, .int .i64 0] 118).drw hpre hng; have Hsx := Lib.hid sx; clear hpre sx) | (have hpre : Drw b0 g cv cn (w4.alloc (.cells #[.int .i64 0, .int .i64 0, .int .i64 0, .int .i64 0] 118)) w5 := hd5; have sx := (Boxed.new w4 [.int .i64 0, .int .i64 0, .int .i64 0, .int .i64 0] 118).drw hpre hng; have Hsx := Lib.hid sx; clear hpre sx) | skip); have hz5 := Hd5.out.size; clear tok1 _t hd5)
                | (go_simp; go_at_call 54; refine Calls.mono (spec_l01Next b0 g cn cv _ _ (Hd5.out.src.ext (by repeat (first | exact Ext.refl _ | assumption | refine Ext.alloc ?_ _ | refine Ext.drew ?_ | refine Ext.drewN ?_ _ | refine Ext.setCell ?_ (by first | (simp; done) | (simp; omega) | omega) _ | refine Ext.trans ?_ (by assumption))))) ?_; rintro e w6 ⟨r6, rfl, -, hd6⟩; have Hd6 := Lib.hid (Hd5.out.trans (Drw.pre (show Ext w5 _ from (by repeat (first | exact Ext.refl _ | assumption | refine Ext.alloc ?_ _ | refine Ext.drew ?_ | refine Ext.drewN ?_ _ | refine Ext.setCell ?_ (by first | (simp; done) | (simp; omega) | omega) _ | refine Ext.trans ?_ (by assumption)))) hd6)); have hz6 := Hd6.out.size; (first | (have sy := Hsx.out.drw hd6 hng; have sy0 := sy.at0; have sy1 := sy.at1; have sy2 := sy.at2; have sy3 := sy.at3; have sf0 := sy.fz 0 h04; have sf1 := sy.fz 1 h14; have sf2 := sy.fz 2 h24; have sf3 := sy.fz 3 h34; have syg := sy.1; have Hsy := Lib.hid sy; clear sy) | (have sy := (Boxed.ext Hsx.out (Ext.drew (Ext.refl _))).drw hd6 hng; have sy0 := sy.at0; have sy1 := sy.at1; have sy2 := sy.at2; have sy3 := sy.at3; have sf0 := sy.fz 0 h04; have sf1 := sy.fz 1 h14; have sf2 := sy.fz 2 h24; have sf3 := sy.fz 3 h34; have syg := sy.1; have Hsy := Lib.hid sy; clear sy) | (have hng5 : w5.heap.size ≠ g := Hne5.out _ hz5; have hpre : Drw b0 g cv cn (w5.alloc (.cells #[.int .i64 0, .int .i64 0, .int .i64 0, .int .i64 0] 118)) w6 := hd6; have sy := (Boxed.new w5 [.int .i64 0, .int .i64 0, .int .i64 0, .int .i64 0] 118).drw hpre hng5; have sy0 := sy.at0; have sy1 := sy.at1; have sy2 := sy.at2; have sy3 := sy.at3; have sf0 := sy.fz 0 h04; have sf1 := sy.fz 1 h14; have sf2 := sy.fz 2 h24; have sf3 := sy.fz 3 h34; have syg := sy.1; have Hsy := Lib.hid sy; clear sy; clear hpre) | skip); clear hd6))
            all_goals
              have hz6 := Hd6.out.size
              go_wp2_with fail
              go_meet
              first
                | exact ⟨w6.heap.size, _, _, rfl, by omega, Lib.hid (Boxed.new w6 [.int .i64 (a : Int), .int .i64 (b : Int), .int .i64 _, .int .i64 _] 118), Lib.hid (Hd6.out.alloc _)⟩
                | exact ⟨w4.heap.size, _, _, rfl, by omega, Lib.hid ((((Hsy.out.set 0 (.int .i64 (a : Int)) h04).set 1 (.int .i64 (b : Int)) h14).set 2 _ h24).set 3 _ h34), Lib.hid ((((Hd6.out.setCell (by show _ ≤ w4.heap.size; omega) (by show _ < w4.heap.size; omega) _).setCell (by show _ ≤ w4.heap.size; omega) (by show _ < w4.heap.size; omega) _).setCell (by show _ ≤ w4.heap.size; omega) (by show _ < w4.heap.size; omega) _).setCell (by show _ ≤ w4.heap.size; omega) (by show _ < w4.heap.size; omega) _)⟩
                | exact ⟨w5.heap.size, _, _, rfl, by omega, Lib.hid ((((Hsy.out.set 0 (.int .i64 (a : Int)) h04).set 1 (.int .i64 (b : Int)) h14).set 2 _ h24).set 3 _ h34), Lib.hid ((((Hd6.out.setCell (by show _ ≤ w5.heap.size; omega) (by show _ < w5.heap.size; omega) _).setCell (by show _ ≤ w5.heap.size; omega) (by show _ < w5.heap.size; omega) _).setCell (by show _ ≤ w5.heap.size; omega) (by show _ < w5.heap.size; omega) _).setCell (by show _ ≤ w5.heap.size; omega) (by show _ < w5.heap.size; omega) _)⟩
          obtain ⟨gl, x, y, rfl, hgl, HBx, Hdx⟩ := hcut
          obtain ⟨wx, rfl⟩ : ∃ x : World, x = wc := ⟨_, rfl⟩
          have HBc := Lib.hid (HB2.out.step hg (Nat.le_refl _) (by omega) Hdx.out)
          clear hbl hai ha0 hbi hb0 HS hng Hne5 Hbe h04 h14 h24 h34
          go_wp2_with fail
          refine Calls.mono (spec_l01Next b0 g cn cv 6 _ Hdx.out.src) ?_
          rintro e w7 ⟨t, rfl, -, hd7⟩
          have Hd7 := Lib.hid (Hdx.out.trans hd7)
          have hglg : gl ≠ g := by omega
          have HBx7 := Lib.hid (HBx.out.drw hd7 hglg)
          have tb2 := HBx7.out.at2
          have tb3 := HBx7.out.at3
          have tf2 := HBx7.out.fz 2 (by simp)
          have tf3 := HBx7.out.fz 3 (by simp)
          have tbg := HBx7.out.1
          clear hd7
          have hh1 := HB2.out.h1
          have hh2 := HB2.out.h2
          have hnl : w.heap.size + 1 + 1 + 1 ≠ gl := by omega
          have hln : gl ≠ w.heap.size + 1 + 1 + 1 := by omega
          have h1_40 : (1 : Int) < 40 := by omega
          have h3_4 : 3 < [Value.int .i64 0, .int .i64 0, .int .i64 0, .int .i64 0].length := by simp
          by_cases t0 : t = 0
          · subst t0
            have HDA := Lib.hid ((Hd7.out.setCell (p := ⟨gl, 2, none⟩) (by show _ ≤ gl; omega) (by show _ < gl; omega) (.int .i64 0)).setCell (p := ⟨gl, 3, none⟩) (by show _ ≤ gl; omega) (by show _ < gl; omega) (.int .i64 730499))
            have HBA := Lib.hid ((HBx7.out.set 2 (.int .i64 0) (by simp)).set 3 (.int .i64 730499) (by simp))
            have STA := Lib.hid (HB2.out.step hg (Nat.le_refl _) (by omega) HDA.out)

            have tc := HBA.out; have tc0 := tc.at0; have tc1 := tc.at1; have tc2 := tc.at2; have tc3 := tc.at3; have tcg := tc.1; have Htc := Lib.hid tc; clear tc
            have bn1 := STA.out.box.at1
            have bng := STA.out.box.1
            have bnf := STA.out.box.fz 1 (by simp)
            obtain ⟨Ak, ck, rfl⟩ := STA.out.lks.len
            have hsrc := (Boxed.new ((w7.setCell ⟨gl, 2, none⟩ (.int .i64 0)).setCell ⟨gl, 3, none⟩ (.int .i64 730499)) [.int .i64 (a : Int), .int .i64 b, .int .i64 (0), .int .i64 (730499)] 118).row rfl (link_cells4 a b (0) (730499))
            try rw [show ((w7.setCell ⟨gl, 2, none⟩ (.int .i64 0)).setCell ⟨gl, 3, none⟩ (.int .i64 730499)).heap.size = w7.heap.size from by simp [World.setCell]] at hsrc
            have Hsrc := Lib.hid hsrc
            clear hsrc
            go_wp2_with (at_builtin; refine wpList_append_row _ rfl _ _ 25 rfl hd 118 4 32 Tryz.underlying25 (by kernel_rfl) (by omega) _ m.length 1 _ rfl (STA.out.lks.ext (by repeat (first | exact Ext.refl _ | assumption | refine Ext.alloc ?_ _ | refine Ext.drew ?_ | refine Ext.drewN ?_ _ | refine Ext.setCell ?_ (by first | (simp; done) | (simp; omega) | omega) _ | refine Ext.trans ?_ (by assumption)))).dst (.inr (by omega)) 0 _ _ (linkCell [⟨a, b, 0, 730499⟩]) rfl Hsrc.out (fun i _ => linkCell_one _ i) (by unfold maxLen; omega) (by omega) (by have h3' := STA.out.h3; first | (simp at h3' ⊢; omega) | (simp; omega)) ?_; intro v9 w9 hown9 hput9; obtain ⟨Av9, cv9, rfl⟩ := ownsRow_len hown9; have hb9 := (STA.out.box.ext ((Ext.refl _).alloc (.cells #[.int .i64 (a : Int), .int .i64 b, .int .i64 (0), .int .i64 (730499)] 118))).off hput9.1 (fun hh => by have := hh.1; have := STA.out.h1; have := STA.out.h2; omega); have bn9 := hb9.at1; have bnf9 := hb9.fz 1 (by simp); have Hn9 := Lib.hid (STA.out.push hg (Nat.le_refl _) (by omega) ((Ext.refl _).alloc (.cells #[.int .i64 (a : Int), .int .i64 b, .int .i64 (0), .int .i64 (730499)] 118)) hput9 hown9); clear hb9 hown9 hput9)
            go_roundg (gk - 1)
            case measure => omega
            case rel => exact ⟨m ++ [(⟨a, b, 0, 730499⟩ : Lk)], _, by rw [Int.ofNat_sub (by omega)]; rfl, by simp; omega, Hn9⟩
          by_cases t1 : t = 1
          · subst t1
            go_wp2_with fail
            refine Calls.mono (spec_l01Next b0 g cn cv 60 _ Hd7.out.src) ?_
            rintro e w8 ⟨r8, rfl, ⟨u0, u1, _⟩, hd8⟩
            have hu1 := u1 (by omega)
            have Hd8 := Lib.hid ((Hd7.out.trans hd8).setCell (p := ⟨gl, 2, none⟩) (by show _ ≤ gl; omega) (by show _ < gl; omega) (.int .i64 (r8 - 30)))
            have hbx8 := HBx7.out.drw hd8 hglg
            have v2 := hbx8.at2
            have vf2 := hbx8.fz 2 (by simp)
            have HBx8 := Lib.hid (hbx8.set 2 (.int .i64 (r8 - 30)) (by simp))
            clear hd8 hbx8 u1 tb2 tb3 tf2 tf3 tbg
            go_wp2_with fail
            generalize w8.setCell ⟨gl, 2, none⟩ (.int .i64 (r8 - 30)) = wy at *
            have tb2 := HBx8.out.at2
            have tb3 := HBx8.out.at3
            have tf3 := HBx8.out.fz 3 (by simp)
            have tbg := HBx8.out.1
            go_region_law (first
              | (go_simp; go_at_call 54; refine Calls.mono (spec_l01Next b0 g cn cv _ _ (Hd8.out.src.ext (by repeat (first | exact Ext.refl _ | assumption | refine Ext.alloc ?_ _ | refine Ext.drew ?_ | refine Ext.drewN ?_ _ | refine Ext.setCell ?_ (by first | (simp; done) | (simp; omega) | omega) _ | refine Ext.trans ?_ (by assumption))))) ?_; rintro e w9 ⟨r9, rfl, ⟨x0, x1, _⟩, hd9⟩; have hx1 := x1 h1_40; have hbx9 := (HBx8.out.ext (show Ext wy _ from (by repeat (first | exact Ext.refl _ | assumption | refine Ext.alloc ?_ _ | refine Ext.drew ?_ | refine Ext.drewN ?_ _ | refine Ext.setCell ?_ (by first | (simp; done) | (simp; omega) | omega) _ | refine Ext.trans ?_ (by assumption))))).drw hd9 hglg; have y2 := hbx9.at2; have y3 := hbx9.at3; have yf3 := hbx9.fz 3 h3_4; have yg := hbx9.1; have W3 : IntKind.i64.wrap (r8 - 30 + r9) = r8 - 30 + r9 := IntWalk.i64_in _ (by omega); have HDB := Lib.hid ((Hd8.out.trans (Drw.pre (show Ext wy _ from (by repeat (first | exact Ext.refl _ | assumption | refine Ext.alloc ?_ _ | refine Ext.drew ?_ | refine Ext.drewN ?_ _ | refine Ext.setCell ?_ (by first | (simp; done) | (simp; omega) | omega) _ | refine Ext.trans ?_ (by assumption)))) hd9)).setCell (p := ⟨gl, 3, none⟩) (by show _ ≤ gl; omega) (by show _ < gl; omega) (.int .i64 (r8 - 30 + r9))); have HBB := Lib.hid (hbx9.set 3 (.int .i64 (r8 - 30 + r9)) (by simp)); have STB := Lib.hid (HB2.out.step hg (Nat.le_refl _) (by omega) HDB.out); clear hbx9 hd9 x1))
            all_goals
              clear tb2 tb3 tf3 tbg W3
              have W3 : IntKind.i64.wrap (r8 - 30 + r9) = r8 - 30 + r9 := IntWalk.i64_in _ (by omega)
              have tc := HBB.out; have tc0 := tc.at0; have tc1 := tc.at1; have tc2 := tc.at2; have tc3 := tc.at3; have tcg := tc.1; have Htc := Lib.hid tc; clear tc
              have bn1 := STB.out.box.at1
              have bng := STB.out.box.1
              have bnf := STB.out.box.fz 1 (by simp)
              obtain ⟨Ak, ck, rfl⟩ := STB.out.lks.len
              have hsrc := (Boxed.new (w9.setCell ⟨gl, 3, none⟩ (.int .i64 (r8 - 30 + r9))) [.int .i64 (a : Int), .int .i64 b, .int .i64 (r8 - 30), .int .i64 (r8 - 30 + r9)] 118).row rfl (link_cells4 a b (r8 - 30) (r8 - 30 + r9))
              try rw [show (w9.setCell ⟨gl, 3, none⟩ (.int .i64 (r8 - 30 + r9))).heap.size = w9.heap.size from by simp [World.setCell]] at hsrc
              have Hsrc := Lib.hid hsrc
              clear hsrc
              go_wp2_with (at_builtin; refine wpList_append_row _ rfl _ _ 25 rfl hd 118 4 32 Tryz.underlying25 (by kernel_rfl) (by omega) _ m.length 1 _ rfl (STB.out.lks.ext (by repeat (first | exact Ext.refl _ | assumption | refine Ext.alloc ?_ _ | refine Ext.drew ?_ | refine Ext.drewN ?_ _ | refine Ext.setCell ?_ (by first | (simp; done) | (simp; omega) | omega) _ | refine Ext.trans ?_ (by assumption)))).dst (.inr (by omega)) 0 _ _ (linkCell [⟨a, b, r8 - 30, r8 - 30 + r9⟩]) rfl Hsrc.out (fun i _ => linkCell_one _ i) (by unfold maxLen; omega) (by omega) (by have h3' := STB.out.h3; first | (simp at h3' ⊢; omega) | (simp; omega)) ?_; intro v9 w9 hown9 hput9; obtain ⟨Av9, cv9, rfl⟩ := ownsRow_len hown9; have hb9 := (STB.out.box.ext ((Ext.refl _).alloc (.cells #[.int .i64 (a : Int), .int .i64 b, .int .i64 (r8 - 30), .int .i64 (r8 - 30 + r9)] 118))).off hput9.1 (fun hh => by have := hh.1; have := STB.out.h1; have := STB.out.h2; omega); have bn9 := hb9.at1; have bnf9 := hb9.fz 1 (by simp); have Hn9 := Lib.hid (STB.out.push hg (Nat.le_refl _) (by omega) ((Ext.refl _).alloc (.cells #[.int .i64 (a : Int), .int .i64 b, .int .i64 (r8 - 30), .int .i64 (r8 - 30 + r9)] 118)) hput9 hown9); clear hb9 hown9 hput9)
              go_roundg (gk - 1)
              case measure => omega
              case rel => exact ⟨m ++ [(⟨a, b, r8 - 30, r8 - 30 + r9⟩ : Lk)], _, by rw [Int.ofNat_sub (by omega)]; rfl, by simp; omega, Hn9⟩
          · have t0' : (t == 0) = false := by simpa using t0
            have t1' : (t == 1) = false := by simpa using t1
            have HDC := Lib.hid Hd7.out
            have HBC := Lib.hid (show Boxed w7 gl [.int .i64 (a : Int), .int .i64 b, .int .i64 x, .int .i64 y] from HBx7.out)
            have STC := Lib.hid (HB2.out.step hg (Nat.le_refl _) (by omega) HDC.out)
            clear tb2 tb3 tf2 tf3 tbg

            have tc := HBC.out; have tc0 := tc.at0; have tc1 := tc.at1; have tc2 := tc.at2; have tc3 := tc.at3; have tcg := tc.1; have Htc := Lib.hid tc; clear tc
            have bn1 := STC.out.box.at1
            have bng := STC.out.box.1
            have bnf := STC.out.box.fz 1 (by simp)
            obtain ⟨Ak, ck, rfl⟩ := STC.out.lks.len
            have hsrc := (Boxed.new w7 [.int .i64 (a : Int), .int .i64 b, .int .i64 (x), .int .i64 (y)] 118).row rfl (link_cells4 a b (x) (y))
            try rw [show w7.heap.size = w7.heap.size from by simp [World.setCell]] at hsrc
            have Hsrc := Lib.hid hsrc
            clear hsrc
            go_wp2_with (at_builtin; refine wpList_append_row _ rfl _ _ 25 rfl hd 118 4 32 Tryz.underlying25 (by kernel_rfl) (by omega) _ m.length 1 _ rfl (STC.out.lks.ext (by repeat (first | exact Ext.refl _ | assumption | refine Ext.alloc ?_ _ | refine Ext.drew ?_ | refine Ext.drewN ?_ _ | refine Ext.setCell ?_ (by first | (simp; done) | (simp; omega) | omega) _ | refine Ext.trans ?_ (by assumption)))).dst (.inr (by omega)) 0 _ _ (linkCell [⟨a, b, x, y⟩]) rfl Hsrc.out (fun i _ => linkCell_one _ i) (by unfold maxLen; omega) (by omega) (by have h3' := STC.out.h3; first | (simp at h3' ⊢; omega) | (simp; omega)) ?_; intro v9 w9 hown9 hput9; obtain ⟨Av9, cv9, rfl⟩ := ownsRow_len hown9; have hb9 := (STC.out.box.ext ((Ext.refl _).alloc (.cells #[.int .i64 (a : Int), .int .i64 b, .int .i64 (x), .int .i64 (y)] 118))).off hput9.1 (fun hh => by have := hh.1; have := STC.out.h1; have := STC.out.h2; omega); have bn9 := hb9.at1; have bnf9 := hb9.fz 1 (by simp); have Hn9 := Lib.hid (STC.out.push hg (Nat.le_refl _) (by omega) ((Ext.refl _).alloc (.cells #[.int .i64 (a : Int), .int .i64 b, .int .i64 (x), .int .i64 (y)] 118)) hput9 hown9); clear hb9 hown9 hput9)
            go_roundg (gk - 1)
            case measure => omega
            case rel => exact ⟨m ++ [(⟨a, b, x, y⟩ : Lk)], _, by rw [Int.ofNat_sub (by omega)]; rfl, by simp; omega, Hn9⟩
        · have Hgo := Lib.hid hgo
          clear hgo
          have hm4 : m.length ≤ 4 := by omega
          have Tend : (decide (0 < (gk : Int)) && decide (1 < (l.length : Int))) = false := by
            have := Hgo.out
            by_cases h1 : 0 < gk
            · have h2 : ¬ 1 < l.length := fun hh => this ⟨h1, hh⟩
              simp; omega
            · simp; omega
          by_cases hk0 : 0 < gk
          case pos =>
            have hki : (0 : Int) < (gk : Int) := by omega
            have hci : ¬ (1 : Int) < (l.length : Int) := by have := Hgo.out; omega
            go_wp2_with fail
            refine Calls.mono (spec_l01Next b0 g cn cv 60 _ HB.out.drw.src) ?_
            rintro e w3 ⟨r3, rfl, _, hd3⟩
            have HB3 := Lib.hid (HB.out.step hg (Nat.le_refl _) (by omega) hd3)
            clear hd3
            by_cases z0 : r3 = 0
            · subst z0
              obtain ⟨Ak, ck, rfl⟩ := HB3.out.lks.len
              have cb1 := HB3.out.box.at1
              have cbg := HB3.out.box.1
              have cbf := HB3.out.box.fz 1 (by simp)
              have hg3 : g < w3.heap.size := HB3.out.drw.src.lt
              have Hd0 := Lib.hid (show Drw b0 g cv cn w3 w3 from Drw.refl HB3.out.drw.src)
              go_upto_region 24 with fail
              refine wp_region_inv2 (by kernel_rfl) (by kernel_rfl) (fun a0 => a0.tmps.size = 137 ∧ a0.eval (.tmp 0) = .pointer (some ⟨g, 0, none⟩) ∧ a0.eval (.tmp 3) = .pointer (some ⟨w.heap.size + 1 + 1 + 1, 0, none⟩) ∧ a0.eval (.tmp 5) = .int .i64 l.length) ⟨rfl, rfl, rfl, rfl⟩ (In24 b0 g cv cn (w.heap.size + 1 + 1 + 1) m.length (.slice As l.length cs) (.slice Ak m.length ck) l.length w3 (fun v w' => ∃ x, Hid (DnF b0 g cn cv 118 w w.heap.size (w.heap.size + 1 + 1 + 1) v (.slice As l.length cs) l (m ++ [x]) w'))) ?_ ?_ ?_
              · exact fun a0 _ => In24.start Hd0.out.drew
              · intro a0 listed a1 w4 i hΦ hC hI hi
                obtain ⟨f1, f2, f3, f4⟩ := hΦ
                obtain ⟨hi0, o, ho, hall⟩ := mem_ready.1 hi
                have hi17 : i < 17 := (Array.getElem?_eq_some_iff.1 ho).1
                have up : listed.getD 14 false = true → ∀ j, j < 14 → listed.getD j false = true := fun h14 => by
                  have x1 := hC 14 _ rfl h14 ⟨1, .data⟩ (by simp) rfl
                  have x13 := hC 14 _ rfl h14 ⟨13, .data⟩ (by simp) rfl
                  have x12 := hC 13 _ rfl x13 ⟨12, .data⟩ (by simp) rfl
                  have x5 := hC 12 _ rfl x12 ⟨5, .data⟩ (by simp) rfl
                  have x8 := hC 12 _ rfl x12 ⟨8, .data⟩ (by simp) rfl
                  have x11 := hC 12 _ rfl x12 ⟨11, .data⟩ (by simp) rfl
                  have x2 := hC 5 _ rfl x5 ⟨2, .data⟩ (by simp) rfl
                  have x4 := hC 5 _ rfl x5 ⟨4, .data⟩ (by simp) rfl
                  have x3 := hC 4 _ rfl x4 ⟨3, .data⟩ (by simp) rfl
                  have x6 := hC 8 _ rfl x8 ⟨6, .data⟩ (by simp) rfl
                  have x7 := hC 8 _ rfl x8 ⟨7, .data⟩ (by simp) rfl
                  have x9 := hC 11 _ rfl x11 ⟨9, .data⟩ (by simp) rfl
                  have x10 := hC 11 _ rfl x11 ⟨10, .data⟩ (by simp) rfl
                  have x0 := hC 1 _ rfl x1 ⟨0, .data⟩ (by simp) rfl
                  intro j hj
                  match j, hj with
                  | 0, _ => exact x0
                  | 1, _ => exact x1
                  | 2, _ => exact x2
                  | 3, _ => exact x3
                  | 4, _ => exact x4
                  | 5, _ => exact x5
                  | 6, _ => exact x6
                  | 7, _ => exact x7
                  | 8, _ => exact x8
                  | 9, _ => exact x9
                  | 10, _ => exact x10
                  | 11, _ => exact x11
                  | 12, _ => exact x12
                  | 13, _ => exact x13
                clear hC
                have e0 := (eval_get a1 0).trans ((hI.1.eval (k := 0) (by omega)).trans f2)
                have e3 := (eval_get a1 3).trans ((hI.1.eval (k := 3) (by omega)).trans f3)
                have e5 := (eval_get a1 5).trans ((hI.1.eval (k := 5) (by omega)).trans f4)
                by_cases i14 : i < 14
                · have h14 : listed.getD 14 false = false := by
                    cases h : listed.getD 14 false with
                    | false => rfl
                    | true => have := up h i i14; rw [(get_one hi0).2] at this; cases this
                  obtain ⟨hL, ⟨-, h16, hd, hF⟩ | ⟨hx, -⟩⟩ := hI
                  case inr => rw [h14] at hx; cases hx
                  have hp := fun (x : Value) (hn : Sw g (w.heap.size + 1 + 1 + 1) (.slice Ak m.length ck) l.length w3 w4 x i) => In24.put (m := m.length) (sv := .slice As l.length cs) (E := fun v w' => ∃ x, Hid (DnF b0 g cn cv 118 w w.heap.size (w.heap.size + 1 + 1 + 1) v (.slice As l.length cs) l (m ++ [x]) w')) hL f1 h14 h16 hF (.inl i14) (Off.refl _ _) hg3 hd hn
                  have hq := fun (x : Value) (w5 : World) (hx : Ext w4 w5) (hd' : Drw b0 g cv cn w3 w5) (hn : Sw g (w.heap.size + 1 + 1 + 1) (.slice Ak m.length ck) l.length w3 w5 x i) => In24.put (m := m.length) (sv := .slice As l.length cs) (E := fun v w' => ∃ x, Hid (DnF b0 g cn cv 118 w w.heap.size (w.heap.size + 1 + 1 + 1) v (.slice As l.length cs) l (m ++ [x]) w')) hL f1 h14 h16 hF (.inl i14) (Off.of_ext hx) hg3 hd' hn
                  have hq2 := fun (x : Value) (w5 : World) (hx : Off (One g) w4 w5) (hd' : Drw b0 g cv cn w3 w5) (hn : Sw g (w.heap.size + 1 + 1 + 1) (.slice Ak m.length ck) l.length w3 w5 x i) => In24.put (m := m.length) (sv := .slice As l.length cs) (E := (fun v w' => ∃ x, Hid (DnF b0 g cn cv 118 w w.heap.size (w.heap.size + 1 + 1 + 1) v (.slice As l.length cs) l (m ++ [x]) w'))) hL f1 h14 h16 hF (.inl i14) hx hg3 hd' hn
                  rcases (show i = 0 ∨ i = 2 ∨ i = 3 ∨ i = 6 ∨ i = 9 ∨ i = 1 ∨ i = 4 ∨ i = 7 ∨ i = 10 ∨ (i = 5 ∨ i = 8 ∨ i = 11 ∨ i = 12 ∨ i = 13) by omega) with rfl | rfl | rfl | rfl | rfl | rfl | rfl | rfl | rfl | hh
                  · refine wpOp_step rfl (fun K hK => ?_)
                    go_simp
                    exact hK _ _ (hp _ rfl)
                  · refine wpOp_step rfl (fun K hK => ?_)
                    go_simp
                    exact hK _ _ (hp _ rfl)
                  · refine wpOp_step rfl (fun K hK => ?_)
                    go_simp
                    exact hK _ _ (hp _ rfl)
                  · refine wpOp_step rfl (fun K hK => ?_)
                    go_simp
                    exact hK _ _ (hp _ rfl)
                  · refine wpOp_step rfl (fun K hK => ?_)
                    go_simp
                    exact hK _ _ (hp _ rfl)
                  · have r0 : listed.getD 0 false = true := by
                      injection ho with ho
                      subst ho
                      exact hall ⟨0, .data⟩ (by simp) rfl
                    have e111 := (eval_get a1 111).trans (hF 0 (by omega) r0)
                    have k1 := (hd.cell cbg (by omega)).trans cb1
                    refine wpOp_step rfl (fun K hK => ?_)
                    go_simp
                    exact hK _ _ (hp _ rfl)
                  · have r3 : listed.getD 3 false = true := by
                      injection ho with ho
                      subst ho
                      exact hall ⟨3, .data⟩ (by simp) rfl
                    have e114 := (eval_get a1 114).trans (hF 3 (by omega) r3)
                    refine wpOp_step rfl (fun K hK => ?_)
                    go_simp
                    exact hK _ _ (hq _ _ ((Ext.refl _).alloc _) (hd.alloc _) (Rd.of_box [0, 1, (l.length : Int)] (Boxed.new w4 _ _) rfl hd.size))
                  · refine wpOp_step rfl (fun K hK => ?_)
                    go_simp
                    exact hK _ _ (hq _ _ ((Ext.refl _).alloc _) (hd.alloc _) (Rd.of_box [0, 5] (Boxed.new w4 _ _) rfl hd.size))
                  · refine wpOp_step rfl (fun K hK => ?_)
                    go_simp
                    exact hK _ _ (hq _ _ ((Ext.refl _).alloc _) (hd.alloc _) (Rd.of_box [4, 730499, 730500] (Boxed.new w4 _ _) rfl hd.size))
                  · rcases (show i = 5 ∨ i = 8 ∨ i = 11 ∨ i = 12 ∨ i = 13 by omega) with rfl | rfl | rfl | rfl | rfl
                    · have r2 : listed.getD 2 false = true := by
                        injection ho with ho
                        subst ho
                        exact hall ⟨2, .data⟩ (by simp) rfl
                      have r4 : listed.getD 4 false = true := by
                        injection ho with ho
                        subst ho
                        exact hall ⟨4, .data⟩ (by simp) rfl
                      have e113 := (eval_get a1 113).trans (hF 2 (by omega) r2)
                      obtain ⟨ga, hv, hga1, hga2, la, hla, hca⟩ := hF 4 (by omega) r4
                      have e115 := (eval_get a1 115).trans hv
                      clear hv
                      refine wpOp_step rfl (fun K hK => ?_)
                      go_simp
                      go_at_call 77
                      refine Calls.mono (pickN hla (by omega) (by omega) hd hg3 hga1 hga2 hca) ?_
                      rintro e w5 ⟨r5, rfl, hd5, ho5⟩
                      exact hK _ _ (hq2 _ _ ho5 hd5 ⟨r5, rfl⟩)
                    · have r6 : listed.getD 6 false = true := by
                        injection ho with ho
                        subst ho
                        exact hall ⟨6, .data⟩ (by simp) rfl
                      have r7 : listed.getD 7 false = true := by
                        injection ho with ho
                        subst ho
                        exact hall ⟨7, .data⟩ (by simp) rfl
                      have e117 := (eval_get a1 117).trans (hF 6 (by omega) r6)
                      obtain ⟨ga, hv, hga1, hga2, la, hla, hca⟩ := hF 7 (by omega) r7
                      have e118 := (eval_get a1 118).trans hv
                      clear hv
                      refine wpOp_step rfl (fun K hK => ?_)
                      go_simp
                      go_at_call 77
                      refine Calls.mono (pickN hla (by omega) (by omega) hd hg3 hga1 hga2 hca) ?_
                      rintro e w5 ⟨r5, rfl, hd5, ho5⟩
                      exact hK _ _ (hq2 _ _ ho5 hd5 ⟨r5, rfl⟩)
                    · have r9 : listed.getD 9 false = true := by
                        injection ho with ho
                        subst ho
                        exact hall ⟨9, .data⟩ (by simp) rfl
                      have r10 : listed.getD 10 false = true := by
                        injection ho with ho
                        subst ho
                        exact hall ⟨10, .data⟩ (by simp) rfl
                      have e120 := (eval_get a1 120).trans (hF 9 (by omega) r9)
                      obtain ⟨ga, hv, hga1, hga2, la, hla, hca⟩ := hF 10 (by omega) r10
                      have e121 := (eval_get a1 121).trans hv
                      clear hv
                      refine wpOp_step rfl (fun K hK => ?_)
                      go_simp
                      go_at_call 77
                      refine Calls.mono (pickN hla (by omega) (by omega) hd hg3 hga1 hga2 hca) ?_
                      rintro e w5 ⟨r5, rfl, hd5, ho5⟩
                      exact hK _ _ (hq2 _ _ ho5 hd5 ⟨r5, rfl⟩)
                    · have r5 : listed.getD 5 false = true := by
                        injection ho with ho
                        subst ho
                        exact hall ⟨5, .data⟩ (by simp) rfl
                      have r8 : listed.getD 8 false = true := by
                        injection ho with ho
                        subst ho
                        exact hall ⟨8, .data⟩ (by simp) rfl
                      have r11 : listed.getD 11 false = true := by
                        injection ho with ho
                        subst ho
                        exact hall ⟨11, .data⟩ (by simp) rfl
                      obtain ⟨xa, hxa⟩ := hF 5 (by omega) r5
                      have e116 := (eval_get a1 116).trans hxa
                      clear hxa
                      obtain ⟨xb, hxb⟩ := hF 8 (by omega) r8
                      have e119 := (eval_get a1 119).trans hxb
                      clear hxb
                      obtain ⟨xc, hxc⟩ := hF 11 (by omega) r11
                      have e122 := (eval_get a1 122).trans hxc
                      clear hxc
                      refine wpOp_step rfl (fun K hK => ?_)
                      go_simp
                      exact hK _ _ (hp _ ⟨xa, xb, xc, rfl⟩)
                    · have r12 : listed.getD 12 false = true := by
                        injection ho with ho
                        subst ho
                        exact hall ⟨12, .data⟩ (by simp) rfl
                      obtain ⟨xa, xb, xc, hx12⟩ := hF 12 (by omega) r12
                      have e123 := (eval_get a1 123).trans hx12
                      clear hx12
                      refine wpOp_step rfl (fun K hK => ?_)
                      go_simp
                      exact hK _ _ (hq _ _ ((Ext.refl _).alloc _) (hd.alloc _) ⟨_, xa, xb, xc, rfl, hd.size, Boxed.new w4 [.int .i64 0, .int .i64 xa, .int .i64 xb, .int .i64 xc] _⟩)
                · rcases (show i = 14 ∨ i = 15 ∨ i = 16 by omega) with rfl | rfl | rfl
                  · have r1 : listed.getD 1 false = true := by
                      injection ho with ho
                      subst ho
                      exact hall ⟨1, .data⟩ (by simp) rfl
                    have r13 : listed.getD 13 false = true := by
                      injection ho with ho
                      subst ho
                      exact hall ⟨13, .data⟩ (by simp) rfl
                    have h14 := (get_one hi0).2
                    obtain ⟨hL, ⟨-, h16, hdr, hF⟩ | ⟨hx, -⟩⟩ := hI
                    case inr => rw [h14] at hx; cases hx
                    obtain ⟨gd, xa, xb, xc, hx13, hgd, hbx⟩ := hF 13 (by omega) r13
                    have HBp := HB3.out.step hg (Nat.le_refl _) (by omega) hdr
                    have hHz := HBp.h3
                    refine wpOp_step rfl (fun K hK => ?_)
                    refine step_append_row rfl (.tmp 112) (.tmp 124) 25 rfl hd 118 4 32 Tryz.underlying25 (by kernel_rfl) (by omega) _ m.length 1 _ (hF 1 (by omega) r1) HBp.lks.dst (.inr (by omega)) 0 _ _ (linkCell [⟨0, xa, xb, xc⟩]) hx13 (hbx.row rfl (link_cells4 0 xa xb xc)) (fun i _ => linkCell_one _ i) (by unfold maxLen; omega) (by omega) hHz ?_
                    intro v5 w5 hown5 hput5
                    obtain ⟨A5, c5, rfl⟩ := ownsRow_len hown5
                    have hE := (HBp.push (x := ⟨0, xa, xb, xc⟩) hg (Nat.le_refl _) (by omega) (Ext.refl w4) hput5 hown5).fin hg (Nat.le_refl _) (by omega)
                    have hb5 := HBp.box.off hput5.1 (fun hh => by have := hh.1; have := HBp.h1; have := HBp.h2; omega)
                    have hsz1 : 125 < a1.tmps.size := by rw [hL.2.1, f1]; omega
                    refine hK _ _ ⟨hL.put (by omega) _, .inr ⟨(get_one hi0).1, fun h15 => ?_, ⟨A5, c5, eval_same hsz1 _⟩, .inl ⟨get_false h16 (by omega), hb5, ?_⟩⟩⟩
                    · rcases set_get h15 with e15 | h15
                      · omega
                      · exact (eval_other (by omega) _).trans (hF 15 (by omega) h15)
                    · exact (eval_same hsz1 (.slice A5 (m.length + 1) c5)).symm ▸ ⟨_, Lib.hid hE⟩
                  · refine wpOp_step rfl (fun K hK => ?_)
                    go_simp
                    exact hK _ _ (hI.put15 f1 hg3)
                  · have r14 : listed.getD 14 false = true := by
                      injection ho with ho
                      subst ho
                      exact hall ⟨14, .data⟩ (by simp) rfl
                    have r15 : listed.getD 15 false = true := by
                      injection ho with ho
                      subst ho
                      exact hall ⟨15, .data⟩ (by simp) rfl
                    obtain ⟨hL, ⟨hx, -⟩ | ⟨-, h126, ⟨A5, c5, h125⟩, ⟨-, hbx, hE⟩ | ⟨hx, -⟩⟩⟩ := hI
                    case inl => rw [r14] at hx; cases hx
                    case inr.inr => rw [(get_one hi0).2] at hx; cases hx
                    have e126 := (eval_get a1 126).trans (h126 r15)
                    have e125 := (eval_get a1 125).trans h125
                    have k1 := hbx.at1
                    have kf := hbx.fz 1 (by simp)
                    refine wpOp_step rfl (fun K hK => ?_)
                    go_simp
                    rw [h125] at hE
                    refine hK _ _ ⟨hL, .inr ⟨set_old r14, fun _ => h126 r15, ⟨A5, c5, h125⟩, .inr ⟨(get_one hi0).1, ?_⟩⟩⟩
                    rw [h125]
                    exact hE
              · intro listed a1 w4 hC hall hI
                obtain ⟨hL, ⟨hx, -⟩ | ⟨-, -, ⟨A5, c5, h125⟩, ⟨hx, -⟩ | ⟨-, hE⟩⟩⟩ := hI
                case inl => rw [hall 14 (by decide)] at hx; cases hx
                case inr.inl => rw [hall 16 (by decide)] at hx; cases hx
                rw [h125] at hE
                obtain ⟨x5, hE⟩ := hE
                have ha1 := like_puts hL 16 rfl
                simp only [puts, Nat.reduceAdd, Nat.add_zero] at ha1
                rw [h125] at ha1
                generalize a1.eval (.tmp 111) = y0 at ha1
                generalize a1.eval (.tmp 112) = y1 at ha1
                generalize a1.eval (.tmp 113) = y2 at ha1
                generalize a1.eval (.tmp 114) = y3 at ha1
                generalize a1.eval (.tmp 115) = y4 at ha1
                generalize a1.eval (.tmp 116) = y5 at ha1
                generalize a1.eval (.tmp 117) = y6 at ha1
                generalize a1.eval (.tmp 118) = y7 at ha1
                generalize a1.eval (.tmp 119) = y8 at ha1
                generalize a1.eval (.tmp 120) = y9 at ha1
                generalize a1.eval (.tmp 121) = y10 at ha1
                generalize a1.eval (.tmp 122) = y11 at ha1
                generalize a1.eval (.tmp 123) = y12 at ha1
                generalize a1.eval (.tmp 124) = y13 at ha1
                generalize a1.eval (.tmp 126) = y15 at ha1
                simp only [Act.put, List.setIfInBounds_toArray, List.set_cons_zero, List.set_cons_succ] at ha1
                subst ha1
                clear hL hC hall h125
                have eb0 := hE.out.box.at0
                have eb1 := hE.out.box.at1
                have er0 := hE.out.res.at0
                have er1 := hE.out.res.at1
                have ef0 := hE.out.res.fz 0 (by simp)
                have ef1 := hE.out.res.fz 1 (by simp)
                go_wp2_with fail
                refine bodyPost_ret (v := .agg #[.slice As l.length cs, .slice A5 (m.length + 1) c5]) (by simp [results, Tryz.results123, go_sem, *]) rfl ?_
                have := DnF.done hE.out hg (Nat.le_refl _) (by omega) (by omega) (by simp; omega)
                exact this
            · have z0' : (r3 == 0) = false := by simpa using z0
              by_cases z1 : r3 = 1
              · subst z1
                obtain ⟨Ak, ck, rfl⟩ := HB3.out.lks.len
                have cb0 := HB3.out.box.at0
                have cbg := HB3.out.box.1
                have cbf := HB3.out.box.fz 0 (by simp)
                go_wp2_with fail
                go_region_law (first
                  | (refine step_append_row rfl (.tmp 130) (.tmp 133) 24 rfl (w.heap.size + 1 + 1 + 1 + 1) 48 1 24 Tryz.underlying24 (by kernel_rfl) (by omega) _ l.length 1 _ rfl ((HB4.out.sets.ext (show Ext w4 _ from (by repeat (first | exact Ext.refl _ | assumption | refine Ext.alloc ?_ _ | refine Ext.drew ?_ | refine Ext.drewN ?_ _ | refine Ext.setCell ?_ (by first | (simp; done) | (simp; omega) | omega) _ | refine Ext.trans ?_ (by assumption))))).1.dst) (.inr (by omega)) 0 _ _ (fun _ => .slice A4 s4.length c4) rfl (((Boxed.new w4 [.slice A4 s4.length c4] 48).ext (by repeat (first | exact Ext.refl _ | assumption | refine Ext.alloc ?_ _ | refine Ext.drew ?_ | refine Ext.drewN ?_ _ | refine Ext.setCell ?_ (by first | (simp; done) | (simp; omega) | omega) _ | refine Ext.trans ?_ (by assumption)))).row1) (fun _ _ => rfl) (by unfold maxLen; omega) (by omega) (by have := Hd4.out.size; have := HB3.out.drw.size; simp; omega) ?_; intro v5 w5 hown5 hput5; obtain ⟨Av5, cv5, rfl⟩ := ownsRow_len hown5; have hb5 := ((HB4.out.box.ext (show Ext w4 _ from (by repeat (first | exact Ext.refl _ | assumption | refine Ext.alloc ?_ _ | refine Ext.drew ?_ | refine Ext.drewN ?_ _ | refine Ext.setCell ?_ (by first | (simp; done) | (simp; omega) | omega) _ | refine Ext.trans ?_ (by assumption))))).off hput5.1 (fun hh => by have := hh.1; omega)); have b50 := hb5.at0; have b5f := hb5.fz 0 (by simp); have hE := Lib.hid (HB3.out.fin1D (s := s4) hg (Nat.le_refl _) (by omega) Hd4.out (show Ext w4 _ from (by repeat (first | exact Ext.refl _ | assumption | refine Ext.alloc ?_ _ | refine Ext.drew ?_ | refine Ext.drewN ?_ _ | refine Ext.setCell ?_ (by first | (simp; done) | (simp; omega) | omega) _ | refine Ext.trans ?_ (by assumption)))) (row_ext Hrow4.out (by repeat (first | exact Ext.refl _ | assumption | refine Ext.alloc ?_ _ | refine Ext.drew ?_ | refine Ext.drewN ?_ _ | refine Ext.setCell ?_ (by first | (simp; done) | (simp; omega) | omega) _ | refine Ext.trans ?_ (by assumption)))) Hb4.out hs4 hput5 hown5); clear hb5 hown5 hput5)
                  | (go_simp; go_at_call 193; refine Calls.mono (spec_l02Draw b0 g cn cv _ (HB3.out.drw.src.ext (by repeat (first | exact Ext.refl _ | assumption | refine Ext.alloc ?_ _ | refine Ext.drew ?_ | refine Ext.drewN ?_ _ | refine Ext.setCell ?_ (by first | (simp; done) | (simp; omega) | omega) _ | refine Ext.trans ?_ (by assumption))))) ?_; rintro e w4 ⟨v4, s4, rfl, hd4, hs4, _, hrow4⟩; obtain ⟨A4, c4, rfl⟩ := ownsRow_len hrow4; have Hrow4 := Lib.hid hrow4; have Hd4 := Lib.hid (Drw.pre (show Ext w3 _ from (by repeat (first | exact Ext.refl _ | assumption | refine Ext.alloc ?_ _ | refine Ext.drew ?_ | refine Ext.drewN ?_ _ | refine Ext.setCell ?_ (by first | (simp; done) | (simp; omega) | omega) _ | refine Ext.trans ?_ (by assumption)))) hd4); have HB4 := Lib.hid (HB3.out.step hg (Nat.le_refl _) (by omega) Hd4.out); have Hb4 : Hid (w3.heap.size ≤ w3.drew.heap.size) := Lib.hid (Nat.le_refl _); have b40 := HB4.out.box.at0; have b4g := HB4.out.box.1; have b4f := HB4.out.box.fz 0 (by simp); clear hd4 hrow4))
                all_goals
                  have eb0 := hE.out.box.at0
                  have eb1 := hE.out.box.at1
                  have er0 := hE.out.res.at0
                  have er1 := hE.out.res.at1
                  have ef0 := hE.out.res.fz 0 (by simp)
                  have ef1 := hE.out.res.fz 1 (by simp)
                  generalize w5.setCell ⟨w.heap.size + 1 + 1 + 1, 0, none⟩ (.slice Av5 (l.length + 1) cv5) = w6 at *
                  go_wp2_with fail
                  refine bodyPost_ret (v := .agg #[.slice Av5 (l.length + 1) cv5, .slice Ak m.length ck]) (by simp [results, Tryz.results123, go_sem, *]) rfl ?_
                  exact DnF.done hE.out hg (Nat.le_refl _) (by omega) (by simp; omega) (by omega)
              · have z1' : (r3 == 1) = false := by simpa using z1
                obtain ⟨Ak, ck, rfl⟩ := HB3.out.lks.len
                have hE := Lib.hid (HB3.out.fin hg (Nat.le_refl _) (by omega))
                have eb0 := hE.out.box.at0
                have eb1 := hE.out.box.at1
                have er0 := hE.out.res.at0
                have er1 := hE.out.res.at1
                have ef0 := hE.out.res.fz 0 (by simp)
                have ef1 := hE.out.res.fz 1 (by simp)
                go_wp2_with fail
                refine bodyPost_ret (v := .agg #[.slice As l.length cs, .slice Ak m.length ck]) (by simp [results, Tryz.results123, go_sem, *]) rfl ?_
                exact DnF.done hE.out hg (Nat.le_refl _) (by omega) (by omega) (by omega)
          case neg =>
            have hki : ¬ (0 : Int) < (gk : Int) := by omega
            go_wp2_with fail
            refine Calls.mono (spec_l01Next b0 g cn cv 60 _ HB.out.drw.src) ?_
            rintro e w3 ⟨r3, rfl, _, hd3⟩
            have HB3 := Lib.hid (HB.out.step hg (Nat.le_refl _) (by omega) hd3)
            clear hd3
            by_cases z0 : r3 = 0
            · subst z0
              obtain ⟨Ak, ck, rfl⟩ := HB3.out.lks.len
              have cb1 := HB3.out.box.at1
              have cbg := HB3.out.box.1
              have cbf := HB3.out.box.fz 1 (by simp)
              have hg3 : g < w3.heap.size := HB3.out.drw.src.lt
              have Hd0 := Lib.hid (show Drw b0 g cv cn w3 w3 from Drw.refl HB3.out.drw.src)
              go_upto_region 24 with fail
              refine wp_region_inv2 (by kernel_rfl) (by kernel_rfl) (fun a0 => a0.tmps.size = 137 ∧ a0.eval (.tmp 0) = .pointer (some ⟨g, 0, none⟩) ∧ a0.eval (.tmp 3) = .pointer (some ⟨w.heap.size + 1 + 1 + 1, 0, none⟩) ∧ a0.eval (.tmp 5) = .int .i64 l.length) ⟨rfl, rfl, rfl, rfl⟩ (In24 b0 g cv cn (w.heap.size + 1 + 1 + 1) m.length (.slice As l.length cs) (.slice Ak m.length ck) l.length w3 (fun v w' => ∃ x, Hid (DnF b0 g cn cv 118 w w.heap.size (w.heap.size + 1 + 1 + 1) v (.slice As l.length cs) l (m ++ [x]) w'))) ?_ ?_ ?_
              · exact fun a0 _ => In24.start Hd0.out.drew
              · intro a0 listed a1 w4 i hΦ hC hI hi
                obtain ⟨f1, f2, f3, f4⟩ := hΦ
                obtain ⟨hi0, o, ho, hall⟩ := mem_ready.1 hi
                have hi17 : i < 17 := (Array.getElem?_eq_some_iff.1 ho).1
                have up : listed.getD 14 false = true → ∀ j, j < 14 → listed.getD j false = true := fun h14 => by
                  have x1 := hC 14 _ rfl h14 ⟨1, .data⟩ (by simp) rfl
                  have x13 := hC 14 _ rfl h14 ⟨13, .data⟩ (by simp) rfl
                  have x12 := hC 13 _ rfl x13 ⟨12, .data⟩ (by simp) rfl
                  have x5 := hC 12 _ rfl x12 ⟨5, .data⟩ (by simp) rfl
                  have x8 := hC 12 _ rfl x12 ⟨8, .data⟩ (by simp) rfl
                  have x11 := hC 12 _ rfl x12 ⟨11, .data⟩ (by simp) rfl
                  have x2 := hC 5 _ rfl x5 ⟨2, .data⟩ (by simp) rfl
                  have x4 := hC 5 _ rfl x5 ⟨4, .data⟩ (by simp) rfl
                  have x3 := hC 4 _ rfl x4 ⟨3, .data⟩ (by simp) rfl
                  have x6 := hC 8 _ rfl x8 ⟨6, .data⟩ (by simp) rfl
                  have x7 := hC 8 _ rfl x8 ⟨7, .data⟩ (by simp) rfl
                  have x9 := hC 11 _ rfl x11 ⟨9, .data⟩ (by simp) rfl
                  have x10 := hC 11 _ rfl x11 ⟨10, .data⟩ (by simp) rfl
                  have x0 := hC 1 _ rfl x1 ⟨0, .data⟩ (by simp) rfl
                  intro j hj
                  match j, hj with
                  | 0, _ => exact x0
                  | 1, _ => exact x1
                  | 2, _ => exact x2
                  | 3, _ => exact x3
                  | 4, _ => exact x4
                  | 5, _ => exact x5
                  | 6, _ => exact x6
                  | 7, _ => exact x7
                  | 8, _ => exact x8
                  | 9, _ => exact x9
                  | 10, _ => exact x10
                  | 11, _ => exact x11
                  | 12, _ => exact x12
                  | 13, _ => exact x13
                clear hC
                have e0 := (eval_get a1 0).trans ((hI.1.eval (k := 0) (by omega)).trans f2)
                have e3 := (eval_get a1 3).trans ((hI.1.eval (k := 3) (by omega)).trans f3)
                have e5 := (eval_get a1 5).trans ((hI.1.eval (k := 5) (by omega)).trans f4)
                by_cases i14 : i < 14
                · have h14 : listed.getD 14 false = false := by
                    cases h : listed.getD 14 false with
                    | false => rfl
                    | true => have := up h i i14; rw [(get_one hi0).2] at this; cases this
                  obtain ⟨hL, ⟨-, h16, hd, hF⟩ | ⟨hx, -⟩⟩ := hI
                  case inr => rw [h14] at hx; cases hx
                  have hp := fun (x : Value) (hn : Sw g (w.heap.size + 1 + 1 + 1) (.slice Ak m.length ck) l.length w3 w4 x i) => In24.put (m := m.length) (sv := .slice As l.length cs) (E := fun v w' => ∃ x, Hid (DnF b0 g cn cv 118 w w.heap.size (w.heap.size + 1 + 1 + 1) v (.slice As l.length cs) l (m ++ [x]) w')) hL f1 h14 h16 hF (.inl i14) (Off.refl _ _) hg3 hd hn
                  have hq := fun (x : Value) (w5 : World) (hx : Ext w4 w5) (hd' : Drw b0 g cv cn w3 w5) (hn : Sw g (w.heap.size + 1 + 1 + 1) (.slice Ak m.length ck) l.length w3 w5 x i) => In24.put (m := m.length) (sv := .slice As l.length cs) (E := fun v w' => ∃ x, Hid (DnF b0 g cn cv 118 w w.heap.size (w.heap.size + 1 + 1 + 1) v (.slice As l.length cs) l (m ++ [x]) w')) hL f1 h14 h16 hF (.inl i14) (Off.of_ext hx) hg3 hd' hn
                  have hq2 := fun (x : Value) (w5 : World) (hx : Off (One g) w4 w5) (hd' : Drw b0 g cv cn w3 w5) (hn : Sw g (w.heap.size + 1 + 1 + 1) (.slice Ak m.length ck) l.length w3 w5 x i) => In24.put (m := m.length) (sv := .slice As l.length cs) (E := (fun v w' => ∃ x, Hid (DnF b0 g cn cv 118 w w.heap.size (w.heap.size + 1 + 1 + 1) v (.slice As l.length cs) l (m ++ [x]) w'))) hL f1 h14 h16 hF (.inl i14) hx hg3 hd' hn
                  rcases (show i = 0 ∨ i = 2 ∨ i = 3 ∨ i = 6 ∨ i = 9 ∨ i = 1 ∨ i = 4 ∨ i = 7 ∨ i = 10 ∨ (i = 5 ∨ i = 8 ∨ i = 11 ∨ i = 12 ∨ i = 13) by omega) with rfl | rfl | rfl | rfl | rfl | rfl | rfl | rfl | rfl | hh
                  · refine wpOp_step rfl (fun K hK => ?_)
                    go_simp
                    exact hK _ _ (hp _ rfl)
                  · refine wpOp_step rfl (fun K hK => ?_)
                    go_simp
                    exact hK _ _ (hp _ rfl)
                  · refine wpOp_step rfl (fun K hK => ?_)
                    go_simp
                    exact hK _ _ (hp _ rfl)
                  · refine wpOp_step rfl (fun K hK => ?_)
                    go_simp
                    exact hK _ _ (hp _ rfl)
                  · refine wpOp_step rfl (fun K hK => ?_)
                    go_simp
                    exact hK _ _ (hp _ rfl)
                  · have r0 : listed.getD 0 false = true := by
                      injection ho with ho
                      subst ho
                      exact hall ⟨0, .data⟩ (by simp) rfl
                    have e111 := (eval_get a1 111).trans (hF 0 (by omega) r0)
                    have k1 := (hd.cell cbg (by omega)).trans cb1
                    refine wpOp_step rfl (fun K hK => ?_)
                    go_simp
                    exact hK _ _ (hp _ rfl)
                  · have r3 : listed.getD 3 false = true := by
                      injection ho with ho
                      subst ho
                      exact hall ⟨3, .data⟩ (by simp) rfl
                    have e114 := (eval_get a1 114).trans (hF 3 (by omega) r3)
                    refine wpOp_step rfl (fun K hK => ?_)
                    go_simp
                    exact hK _ _ (hq _ _ ((Ext.refl _).alloc _) (hd.alloc _) (Rd.of_box [0, 1, (l.length : Int)] (Boxed.new w4 _ _) rfl hd.size))
                  · refine wpOp_step rfl (fun K hK => ?_)
                    go_simp
                    exact hK _ _ (hq _ _ ((Ext.refl _).alloc _) (hd.alloc _) (Rd.of_box [0, 5] (Boxed.new w4 _ _) rfl hd.size))
                  · refine wpOp_step rfl (fun K hK => ?_)
                    go_simp
                    exact hK _ _ (hq _ _ ((Ext.refl _).alloc _) (hd.alloc _) (Rd.of_box [4, 730499, 730500] (Boxed.new w4 _ _) rfl hd.size))
                  · rcases (show i = 5 ∨ i = 8 ∨ i = 11 ∨ i = 12 ∨ i = 13 by omega) with rfl | rfl | rfl | rfl | rfl
                    · have r2 : listed.getD 2 false = true := by
                        injection ho with ho
                        subst ho
                        exact hall ⟨2, .data⟩ (by simp) rfl
                      have r4 : listed.getD 4 false = true := by
                        injection ho with ho
                        subst ho
                        exact hall ⟨4, .data⟩ (by simp) rfl
                      have e113 := (eval_get a1 113).trans (hF 2 (by omega) r2)
                      obtain ⟨ga, hv, hga1, hga2, la, hla, hca⟩ := hF 4 (by omega) r4
                      have e115 := (eval_get a1 115).trans hv
                      clear hv
                      refine wpOp_step rfl (fun K hK => ?_)
                      go_simp
                      go_at_call 77
                      refine Calls.mono (pickN hla (by omega) (by omega) hd hg3 hga1 hga2 hca) ?_
                      rintro e w5 ⟨r5, rfl, hd5, ho5⟩
                      exact hK _ _ (hq2 _ _ ho5 hd5 ⟨r5, rfl⟩)
                    · have r6 : listed.getD 6 false = true := by
                        injection ho with ho
                        subst ho
                        exact hall ⟨6, .data⟩ (by simp) rfl
                      have r7 : listed.getD 7 false = true := by
                        injection ho with ho
                        subst ho
                        exact hall ⟨7, .data⟩ (by simp) rfl
                      have e117 := (eval_get a1 117).trans (hF 6 (by omega) r6)
                      obtain ⟨ga, hv, hga1, hga2, la, hla, hca⟩ := hF 7 (by omega) r7
                      have e118 := (eval_get a1 118).trans hv
                      clear hv
                      refine wpOp_step rfl (fun K hK => ?_)
                      go_simp
                      go_at_call 77
                      refine Calls.mono (pickN hla (by omega) (by omega) hd hg3 hga1 hga2 hca) ?_
                      rintro e w5 ⟨r5, rfl, hd5, ho5⟩
                      exact hK _ _ (hq2 _ _ ho5 hd5 ⟨r5, rfl⟩)
                    · have r9 : listed.getD 9 false = true := by
                        injection ho with ho
                        subst ho
                        exact hall ⟨9, .data⟩ (by simp) rfl
                      have r10 : listed.getD 10 false = true := by
                        injection ho with ho
                        subst ho
                        exact hall ⟨10, .data⟩ (by simp) rfl
                      have e120 := (eval_get a1 120).trans (hF 9 (by omega) r9)
                      obtain ⟨ga, hv, hga1, hga2, la, hla, hca⟩ := hF 10 (by omega) r10
                      have e121 := (eval_get a1 121).trans hv
                      clear hv
                      refine wpOp_step rfl (fun K hK => ?_)
                      go_simp
                      go_at_call 77
                      refine Calls.mono (pickN hla (by omega) (by omega) hd hg3 hga1 hga2 hca) ?_
                      rintro e w5 ⟨r5, rfl, hd5, ho5⟩
                      exact hK _ _ (hq2 _ _ ho5 hd5 ⟨r5, rfl⟩)
                    · have r5 : listed.getD 5 false = true := by
                        injection ho with ho
                        subst ho
                        exact hall ⟨5, .data⟩ (by simp) rfl
                      have r8 : listed.getD 8 false = true := by
                        injection ho with ho
                        subst ho
                        exact hall ⟨8, .data⟩ (by simp) rfl
                      have r11 : listed.getD 11 false = true := by
                        injection ho with ho
                        subst ho
                        exact hall ⟨11, .data⟩ (by simp) rfl
                      obtain ⟨xa, hxa⟩ := hF 5 (by omega) r5
                      have e116 := (eval_get a1 116).trans hxa
                      clear hxa
                      obtain ⟨xb, hxb⟩ := hF 8 (by omega) r8
                      have e119 := (eval_get a1 119).trans hxb
                      clear hxb
                      obtain ⟨xc, hxc⟩ := hF 11 (by omega) r11
                      have e122 := (eval_get a1 122).trans hxc
                      clear hxc
                      refine wpOp_step rfl (fun K hK => ?_)
                      go_simp
                      exact hK _ _ (hp _ ⟨xa, xb, xc, rfl⟩)
                    · have r12 : listed.getD 12 false = true := by
                        injection ho with ho
                        subst ho
                        exact hall ⟨12, .data⟩ (by simp) rfl
                      obtain ⟨xa, xb, xc, hx12⟩ := hF 12 (by omega) r12
                      have e123 := (eval_get a1 123).trans hx12
                      clear hx12
                      refine wpOp_step rfl (fun K hK => ?_)
                      go_simp
                      exact hK _ _ (hq _ _ ((Ext.refl _).alloc _) (hd.alloc _) ⟨_, xa, xb, xc, rfl, hd.size, Boxed.new w4 [.int .i64 0, .int .i64 xa, .int .i64 xb, .int .i64 xc] _⟩)
                · rcases (show i = 14 ∨ i = 15 ∨ i = 16 by omega) with rfl | rfl | rfl
                  · have r1 : listed.getD 1 false = true := by
                      injection ho with ho
                      subst ho
                      exact hall ⟨1, .data⟩ (by simp) rfl
                    have r13 : listed.getD 13 false = true := by
                      injection ho with ho
                      subst ho
                      exact hall ⟨13, .data⟩ (by simp) rfl
                    have h14 := (get_one hi0).2
                    obtain ⟨hL, ⟨-, h16, hdr, hF⟩ | ⟨hx, -⟩⟩ := hI
                    case inr => rw [h14] at hx; cases hx
                    obtain ⟨gd, xa, xb, xc, hx13, hgd, hbx⟩ := hF 13 (by omega) r13
                    have HBp := HB3.out.step hg (Nat.le_refl _) (by omega) hdr
                    have hHz := HBp.h3
                    refine wpOp_step rfl (fun K hK => ?_)
                    refine step_append_row rfl (.tmp 112) (.tmp 124) 25 rfl hd 118 4 32 Tryz.underlying25 (by kernel_rfl) (by omega) _ m.length 1 _ (hF 1 (by omega) r1) HBp.lks.dst (.inr (by omega)) 0 _ _ (linkCell [⟨0, xa, xb, xc⟩]) hx13 (hbx.row rfl (link_cells4 0 xa xb xc)) (fun i _ => linkCell_one _ i) (by unfold maxLen; omega) (by omega) hHz ?_
                    intro v5 w5 hown5 hput5
                    obtain ⟨A5, c5, rfl⟩ := ownsRow_len hown5
                    have hE := (HBp.push (x := ⟨0, xa, xb, xc⟩) hg (Nat.le_refl _) (by omega) (Ext.refl w4) hput5 hown5).fin hg (Nat.le_refl _) (by omega)
                    have hb5 := HBp.box.off hput5.1 (fun hh => by have := hh.1; have := HBp.h1; have := HBp.h2; omega)
                    have hsz1 : 125 < a1.tmps.size := by rw [hL.2.1, f1]; omega
                    refine hK _ _ ⟨hL.put (by omega) _, .inr ⟨(get_one hi0).1, fun h15 => ?_, ⟨A5, c5, eval_same hsz1 _⟩, .inl ⟨get_false h16 (by omega), hb5, ?_⟩⟩⟩
                    · rcases set_get h15 with e15 | h15
                      · omega
                      · exact (eval_other (by omega) _).trans (hF 15 (by omega) h15)
                    · exact (eval_same hsz1 (.slice A5 (m.length + 1) c5)).symm ▸ ⟨_, Lib.hid hE⟩
                  · refine wpOp_step rfl (fun K hK => ?_)
                    go_simp
                    exact hK _ _ (hI.put15 f1 hg3)
                  · have r14 : listed.getD 14 false = true := by
                      injection ho with ho
                      subst ho
                      exact hall ⟨14, .data⟩ (by simp) rfl
                    have r15 : listed.getD 15 false = true := by
                      injection ho with ho
                      subst ho
                      exact hall ⟨15, .data⟩ (by simp) rfl
                    obtain ⟨hL, ⟨hx, -⟩ | ⟨-, h126, ⟨A5, c5, h125⟩, ⟨-, hbx, hE⟩ | ⟨hx, -⟩⟩⟩ := hI
                    case inl => rw [r14] at hx; cases hx
                    case inr.inr => rw [(get_one hi0).2] at hx; cases hx
                    have e126 := (eval_get a1 126).trans (h126 r15)
                    have e125 := (eval_get a1 125).trans h125
                    have k1 := hbx.at1
                    have kf := hbx.fz 1 (by simp)
                    refine wpOp_step rfl (fun K hK => ?_)
                    go_simp
                    rw [h125] at hE
                    refine hK _ _ ⟨hL, .inr ⟨set_old r14, fun _ => h126 r15, ⟨A5, c5, h125⟩, .inr ⟨(get_one hi0).1, ?_⟩⟩⟩
                    rw [h125]
                    exact hE
              · intro listed a1 w4 hC hall hI
                obtain ⟨hL, ⟨hx, -⟩ | ⟨-, -, ⟨A5, c5, h125⟩, ⟨hx, -⟩ | ⟨-, hE⟩⟩⟩ := hI
                case inl => rw [hall 14 (by decide)] at hx; cases hx
                case inr.inl => rw [hall 16 (by decide)] at hx; cases hx
                rw [h125] at hE
                obtain ⟨x5, hE⟩ := hE
                have ha1 := like_puts hL 16 rfl
                simp only [puts, Nat.reduceAdd, Nat.add_zero] at ha1
                rw [h125] at ha1
                generalize a1.eval (.tmp 111) = y0 at ha1
                generalize a1.eval (.tmp 112) = y1 at ha1
                generalize a1.eval (.tmp 113) = y2 at ha1
                generalize a1.eval (.tmp 114) = y3 at ha1
                generalize a1.eval (.tmp 115) = y4 at ha1
                generalize a1.eval (.tmp 116) = y5 at ha1
                generalize a1.eval (.tmp 117) = y6 at ha1
                generalize a1.eval (.tmp 118) = y7 at ha1
                generalize a1.eval (.tmp 119) = y8 at ha1
                generalize a1.eval (.tmp 120) = y9 at ha1
                generalize a1.eval (.tmp 121) = y10 at ha1
                generalize a1.eval (.tmp 122) = y11 at ha1
                generalize a1.eval (.tmp 123) = y12 at ha1
                generalize a1.eval (.tmp 124) = y13 at ha1
                generalize a1.eval (.tmp 126) = y15 at ha1
                simp only [Act.put, List.setIfInBounds_toArray, List.set_cons_zero, List.set_cons_succ] at ha1
                subst ha1
                clear hL hC hall h125
                have eb0 := hE.out.box.at0
                have eb1 := hE.out.box.at1
                have er0 := hE.out.res.at0
                have er1 := hE.out.res.at1
                have ef0 := hE.out.res.fz 0 (by simp)
                have ef1 := hE.out.res.fz 1 (by simp)
                go_wp2_with fail
                refine bodyPost_ret (v := .agg #[.slice As l.length cs, .slice A5 (m.length + 1) c5]) (by simp [results, Tryz.results123, go_sem, *]) rfl ?_
                have := DnF.done hE.out hg (Nat.le_refl _) (by omega) (by omega) (by simp; omega)
                exact this
            · have z0' : (r3 == 0) = false := by simpa using z0
              by_cases z1 : r3 = 1
              · subst z1
                obtain ⟨Ak, ck, rfl⟩ := HB3.out.lks.len
                have cb0 := HB3.out.box.at0
                have cbg := HB3.out.box.1
                have cbf := HB3.out.box.fz 0 (by simp)
                go_wp2_with fail
                go_region_law (first
                  | (refine step_append_row rfl (.tmp 130) (.tmp 133) 24 rfl (w.heap.size + 1 + 1 + 1 + 1) 48 1 24 Tryz.underlying24 (by kernel_rfl) (by omega) _ l.length 1 _ rfl ((HB4.out.sets.ext (show Ext w4 _ from (by repeat (first | exact Ext.refl _ | assumption | refine Ext.alloc ?_ _ | refine Ext.drew ?_ | refine Ext.drewN ?_ _ | refine Ext.setCell ?_ (by first | (simp; done) | (simp; omega) | omega) _ | refine Ext.trans ?_ (by assumption))))).1.dst) (.inr (by omega)) 0 _ _ (fun _ => .slice A4 s4.length c4) rfl (((Boxed.new w4 [.slice A4 s4.length c4] 48).ext (by repeat (first | exact Ext.refl _ | assumption | refine Ext.alloc ?_ _ | refine Ext.drew ?_ | refine Ext.drewN ?_ _ | refine Ext.setCell ?_ (by first | (simp; done) | (simp; omega) | omega) _ | refine Ext.trans ?_ (by assumption)))).row1) (fun _ _ => rfl) (by unfold maxLen; omega) (by omega) (by have := Hd4.out.size; have := HB3.out.drw.size; simp; omega) ?_; intro v5 w5 hown5 hput5; obtain ⟨Av5, cv5, rfl⟩ := ownsRow_len hown5; have hb5 := ((HB4.out.box.ext (show Ext w4 _ from (by repeat (first | exact Ext.refl _ | assumption | refine Ext.alloc ?_ _ | refine Ext.drew ?_ | refine Ext.drewN ?_ _ | refine Ext.setCell ?_ (by first | (simp; done) | (simp; omega) | omega) _ | refine Ext.trans ?_ (by assumption))))).off hput5.1 (fun hh => by have := hh.1; omega)); have b50 := hb5.at0; have b5f := hb5.fz 0 (by simp); have hE := Lib.hid (HB3.out.fin1D (s := s4) hg (Nat.le_refl _) (by omega) Hd4.out (show Ext w4 _ from (by repeat (first | exact Ext.refl _ | assumption | refine Ext.alloc ?_ _ | refine Ext.drew ?_ | refine Ext.drewN ?_ _ | refine Ext.setCell ?_ (by first | (simp; done) | (simp; omega) | omega) _ | refine Ext.trans ?_ (by assumption)))) (row_ext Hrow4.out (by repeat (first | exact Ext.refl _ | assumption | refine Ext.alloc ?_ _ | refine Ext.drew ?_ | refine Ext.drewN ?_ _ | refine Ext.setCell ?_ (by first | (simp; done) | (simp; omega) | omega) _ | refine Ext.trans ?_ (by assumption)))) Hb4.out hs4 hput5 hown5); clear hb5 hown5 hput5)
                  | (go_simp; go_at_call 193; refine Calls.mono (spec_l02Draw b0 g cn cv _ (HB3.out.drw.src.ext (by repeat (first | exact Ext.refl _ | assumption | refine Ext.alloc ?_ _ | refine Ext.drew ?_ | refine Ext.drewN ?_ _ | refine Ext.setCell ?_ (by first | (simp; done) | (simp; omega) | omega) _ | refine Ext.trans ?_ (by assumption))))) ?_; rintro e w4 ⟨v4, s4, rfl, hd4, hs4, _, hrow4⟩; obtain ⟨A4, c4, rfl⟩ := ownsRow_len hrow4; have Hrow4 := Lib.hid hrow4; have Hd4 := Lib.hid (Drw.pre (show Ext w3 _ from (by repeat (first | exact Ext.refl _ | assumption | refine Ext.alloc ?_ _ | refine Ext.drew ?_ | refine Ext.drewN ?_ _ | refine Ext.setCell ?_ (by first | (simp; done) | (simp; omega) | omega) _ | refine Ext.trans ?_ (by assumption)))) hd4); have HB4 := Lib.hid (HB3.out.step hg (Nat.le_refl _) (by omega) Hd4.out); have Hb4 : Hid (w3.heap.size ≤ w3.drew.heap.size) := Lib.hid (Nat.le_refl _); have b40 := HB4.out.box.at0; have b4g := HB4.out.box.1; have b4f := HB4.out.box.fz 0 (by simp); clear hd4 hrow4))
                all_goals
                  have eb0 := hE.out.box.at0
                  have eb1 := hE.out.box.at1
                  have er0 := hE.out.res.at0
                  have er1 := hE.out.res.at1
                  have ef0 := hE.out.res.fz 0 (by simp)
                  have ef1 := hE.out.res.fz 1 (by simp)
                  generalize w5.setCell ⟨w.heap.size + 1 + 1 + 1, 0, none⟩ (.slice Av5 (l.length + 1) cv5) = w6 at *
                  go_wp2_with fail
                  refine bodyPost_ret (v := .agg #[.slice Av5 (l.length + 1) cv5, .slice Ak m.length ck]) (by simp [results, Tryz.results123, go_sem, *]) rfl ?_
                  exact DnF.done hE.out hg (Nat.le_refl _) (by omega) (by simp; omega) (by omega)
              · have z1' : (r3 == 1) = false := by simpa using z1
                obtain ⟨Ak, ck, rfl⟩ := HB3.out.lks.len
                have hE := Lib.hid (HB3.out.fin hg (Nat.le_refl _) (by omega))
                have eb0 := hE.out.box.at0
                have eb1 := hE.out.box.at1
                have er0 := hE.out.res.at0
                have er1 := hE.out.res.at1
                have ef0 := hE.out.res.fz 0 (by simp)
                have ef1 := hE.out.res.fz 1 (by simp)
                go_wp2_with fail
                refine bodyPost_ret (v := .agg #[.slice As l.length cs, .slice Ak m.length ck]) (by simp [results, Tryz.results123, go_sem, *]) rfl ?_
                exact DnF.done hE.out hg (Nat.le_refl _) (by omega) (by omega) (by omega)
end Go.Proofs.YtfmnkojjkjkdeaaGreatDoor
