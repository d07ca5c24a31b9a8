/- Contract: the reference's l20Possible. -/
import Derived.Test.YtfajmlkiidnhlaaGreatQ3Hs
import Derived.Test.YtfajmlkiidnhlaaGreatQ5Tb
import Derived.Test.YtfajmlkiidnhlaaGreatQ5Po
import Derived.Test.YtfajmlkiidnhlaaGreatQ5Pk
import Derived.Deep.RegionLaw
import Derived.Deep.RegionHeld3
namespace Go.Proofs.YtfajmlkiidnhlaaGreat
set_option linter.unusedVariables false
set_option linter.unusedSimpArgs false
open Go.RowKit
attribute [local go_sem] cell_onto

/-- the rows when k choices and, of choice k, j variables are done -/
noncomputable def psRow (n : Net) (k j i : Nat) : List Sp := if i < j then psTo n i (k + 1) else psTo n i k
theorem psRow_zero (n : Net) (k i : Nat) : psRow n k 0 i = psTo n i k := by unfold psRow; rw [if_neg (by omega)]
theorem psRow_end (n : Net) (k : Nat) {j i : Nat} (h : i < j) : psRow n k j i = psTo n i (k + 1) := by unfold psRow; rw [if_pos h]
theorem psRow_at (n : Net) (k j : Nat) : psRow n k j j = psTo n j k := by unfold psRow; rw [if_neg (by omega)]
theorem psRow_skip {n : Net} {k j : Nat} (h : psTo n j (k + 1) = psTo n j k) (i : Nat) : psRow n k (j + 1) i = psRow n k j i := by
  unfold psRow
  by_cases e : i = j
  · subst e; rw [if_pos (by omega), if_neg (by omega), h]
  · by_cases e2 : i < j
    · rw [if_pos (by omega), if_pos e2]
    · rw [if_neg (by omega), if_neg e2]
theorem psRow_succ {n : Net} {k j : Nat} {x : Sp} (h : psTo n j (k + 1) = psTo n j k ++ [x]) (i : Nat) : psRow n k (j + 1) i = if i = j then psRow n k j j ++ [x] else psRow n k j i := by
  rw [psRow_at]
  unfold psRow
  by_cases e : i = j
  · subst e; rw [if_pos (by omega), if_pos rfl, h]
  · rw [if_neg e]
    by_cases e2 : i < j
    · rw [if_pos (by omega), if_pos e2]
    · rw [if_neg (by omega), if_neg e2]
/-- the rounds over the choices -/
structure PsO (T : Nat) (n : Net) (s k : Value) (w : World) (j : Nat) (f : Nat → Value) (wr : World) : Prop where
  ext : Ext w wr
  box : Boxed wr w.heap.size [s, k]
  tab : TabF T wr (w.heap.size + 1) (w.heap.size + 1) n.sets.length (.slice (some ⟨w.heap.size + 1, 0, none⟩) n.sets.length n.sets.length) f (fun i => psTo n i j)
theorem PsO.more {T : Nat} {n : Net} {s k : Value} {w : World} {j : Nat} {f : Nat → Value} {wr w2 : World} (h : PsO T n s k w j f wr) (hx : Ext wr w2) : PsO T n s k w j f w2 := ⟨h.ext.trans hx, h.box.ext hx, h.tab.ext hx⟩
theorem PsO.start {T : Nat} {n : Net} {s k : Value} {w w1 : World} (hx : Ext w w1) (hbx : Boxed w1 w.heap.size [s, k]) (hb : Blk w1 (w.heap.size + 1) n.sets.length (fun _ => .slice none 0 0)) (hn : n.sets.length ≤ 8) : PsO T n s k w 0 (fun _ => .slice none 0 0) w1 := by
  refine ⟨hx, hbx, ?_, Nat.le_refl _, fun i _ => ?_, fun i _ g hg => by simp [Value.ownBlock] at hg, fun i j _ _ _ g hg => by simp [Value.ownBlock] at hg⟩
  · exact hb.own (by omega) (by unfold maxLen; omega) (Nat.le_refl _) (fun _ _ => rfl)
  · exact World.ownsRow_nil _ _ _ _
/-- the rounds over the variables -/
structure PsR (T : Nat) (n : Net) (s k : Value) (w0 : World) (f : Nat → Value) (w : World) (c j : Nat) (f1 : Nat → Value) (wr : World) : Prop where
  off : Off (fun b => 0 < n.sets.length ∧ Blks (w0.heap.size + 1) n.sets.length f b) w wr
  blk : ∀ b, Blks (w0.heap.size + 1) n.sets.length f1 b → Blks (w0.heap.size + 1) n.sets.length f b ∨ w.heap.size ≤ b
  tab : TabF T wr (w0.heap.size + 1) (w0.heap.size + 1) n.sets.length (.slice (some ⟨w0.heap.size + 1, 0, none⟩) n.sets.length n.sets.length) f1 (psRow n c j)
section
variable {T : Nat} {n : Net} {s k : Value} {w0 w wr W w3 : World} {f f1 : Nat → Value} {c j m : Nat} {u v3 : Value}
theorem PsO.inner (h : PsO T n s k w0 c f w) : PsR T n s k w0 f w c 0 f w := ⟨Off.refl _ _, fun _ h => .inl h, h.tab.congr (fun i _ => psRow_zero n c i)⟩
theorem PsR.skip (h : PsR T n s k w0 f w c j f1 wr) (hs : psTo n j (c + 1) = psTo n j c) (hx : Ext wr W) : PsR T n s k w0 f w c (j + 1) f1 W :=
  ⟨h.off.trans (Off.of_ext hx), h.blk, (h.tab.ext hx).congr (fun i _ => psRow_skip hs i)⟩
theorem PsR.step {x : Sp} (h : PsR T n s k w0 f w c j f1 wr) (hi : j < n.sets.length) (hs : psTo n j (c + 1) = psTo n j c ++ [x]) (ej : f1 j = u) (hm : (psTo n j c).length = m) (hx : Ext wr W) (hp : Put (w0.heap.size + 1) W u w3 v3)
    (hr : w3.ownsRow (w0.heap.size + 1) T 2 v3 (m + 1) (cellsOf ((psTo n j c).length * 2) (spanCell (psTo n j c)) ++ cellsOf (1 * 2) (spanCell [x]))) :
    PsR T n s k w0 f w c (j + 1) (fun t => if t = j then v3 else f1 t) (w3.setCell ⟨w0.heap.size + 1, j, none⟩ v3) := by
  subst ej hm
  have hN : 0 < n.sets.length := by omega
  have hr' : w3.ownsRow (w0.heap.size + 1) T 2 v3 ((psRow n c j j).length + 1) (cellsOf ((psRow n c j j).length * 2) (spanCell (psRow n c j j)) ++ cellsOf (1 * 2) (spanCell [x])) := by
    rw [psRow_at]; exact hr
  obtain ⟨h1, h2, h3⟩ := h.tab.push hi hx hp hr'
  rw [Nat.zero_add] at h1 h2
  have hz := h.off.size
  refine ⟨h.off.more h2 (fun b hb => ?_), fun b hb => ?_, h1.congr (fun i _ => psRow_succ hs i)⟩
  · rcases h.blk b hb with e | e
    · exact .inl ⟨hN, e⟩
    · exact .inr e
  · rcases h3 b hb with e | e
    · exact h.blk b e
    · exact .inr (by omega)
theorem PsR.done (h0 : PsO T n s k w0 c f w) (h : PsR T n s k w0 f w c n.sets.length f1 wr) : PsO T n s k w0 (c + 1) f1 wr := by
  have hlt : ∀ b, (0 < n.sets.length ∧ Blks (w0.heap.size + 1) n.sets.length f b) → w0.heap.size + 1 ≤ b := fun b hb => (h0.tab.blk hb.1 hb.2).1
  refine ⟨h0.ext.off h.off (fun b hb hh => by have := hlt b hh; omega), h0.box.off h.off (fun hh => by have := hlt _ hh; omega), h.tab.congr (fun i hi => (psRow_end n c hi).symm)⟩
theorem PsO.none_ (h : PsO T n s k w0 c f w) (hno : ¬ ChOk n.links (chN n.sets c)) (hx : Ext w W) : PsO T n s k w0 (c + 1) f W :=
  ⟨h.ext.trans hx, h.box.ext hx, (h.tab.ext hx).congr (fun i _ => psTo_no (fun hh => hno hh.1))⟩
end
theorem known_iff {l : List Sp} {s : Sp} {m : Nat} (h : l.length = m) : Some_ m (fun t => (spAt l t).fr ≤ s.fr ∧ s.to ≤ (spAt l t).to) ↔ Known l s := by subst h; exact Iff.rfl
theorem some_step {p : Nat → Prop} {m : Nat} : Some_ (m + 1) p ↔ Some_ m p ∨ p m := by
  constructor
  · rintro ⟨i, hi, hp⟩
    by_cases e : i = m
    · subst e; exact .inr hp
    · exact .inl ⟨i, by omega, hp⟩
  · rintro (⟨i, hi, hp⟩ | hp)
    · exact ⟨i, by omega, hp⟩
    · exact ⟨m, by omega, hp⟩

theorem some_dec {l : List Sp} {t : Nat} {x1 x2 : Int} (hno : ¬ Some_ t (fun t => (spAt l t).fr ≤ x1 ∧ x2 ≤ (spAt l t).to)) (h1 : (spAt l t).fr ≤ x1) : decide (x2 ≤ (spAt l t).to) = B (Some_ (t + 1) (fun t => (spAt l t).fr ≤ x1 ∧ x2 ≤ (spAt l t).to)) := by
  by_cases h2 : x2 ≤ (spAt l t).to
  · rw [decide_eq_true h2, B_true (some_step.2 (.inr ⟨h1, h2⟩))]
  · rw [decide_eq_false h2, B_false (fun hh => by rcases some_step.1 hh with e | e; exact hno e; exact h2 e.2)]

set_option maxRecDepth 100000 in
set_option maxHeartbeats 8000000 in
theorem spec_l20Possible (s k : Value) (n : Net) (w : World) (h : NetIn w s k n) (hok : NetOk n) (hfew : prodN n.sets ≤ 4096) : Calls Tryz.prog 75 #[.agg #[s, k]] w (NewSets (posSS n) w) := by
  obtain ⟨As, cs, rfl, _, _⟩ := h.1.len
  have H := Lib.hid h
  have Hok := Lib.hid hok
  have h8 := hok.1
  have h21 : n.links.length ≤ 21 := by have := hok.2.1; omega
  have Hfit := Lib.hid (NetFit.of hok)
  have Hc := Lib.hid (choN_small hfew)
  have Hfew := Lib.hid hfew
  clear h hok hfew
  go_enter Tryz.func75, Tryz.ntmps75
  go_wp2_with (at_make; refine wpList_make_nil _ rfl _ _ 24 rfl 41 24 Tryz.underlying24 (by kernel_rfl) n.sets.length rfl rfl (by omega) (by unfold maxLen; omega) ?_; intro w1 hx1 hb1; simp only [World.size_alloc] at hb1; have bx := (Boxed.new w [.slice As n.sets.length cs, k] 27).ext hx1; have bx0 := bx.at0; have bx1 := bx.at1; have bxg := bx.1; clear bx; have Hb1 := Lib.hid hb1; have Hx1 := Lib.hid hx1; clear hb1 hx1)
  have HP0 := Lib.hid (PsO.start (T := 89) (n := n) (((Ext.refl w).alloc (.cells #[.slice As n.sets.length cs, k] 27)).trans Hx1.out) ((Boxed.new w [.slice As n.sets.length cs, k] 27).ext Hx1.out) Hb1.out h8)
  go_loopg [4, 5, 6, 7, 8, 9, 10, 11] (prodN n.sets) (fun q i u5 u6 u7 u8 u9 u10 u11 wr => ∃ (j : Nat) (f : Nat → Value), j + q = prodN n.sets ∧ i = .int .i64 j ∧ Hid (PsO 89 n (.slice As n.sets.length cs) k w j f wr))
  case atStart => exact ⟨0, _, by omega, rfl, HP0⟩
  clear HP0 bx0 bx1 bxg Hb1 Hx1
  case round =>
    obtain ⟨j, f, hj, rfl, HO⟩ := hrel
    have nb := HO.out.box; have nb0 := nb.at0; have nb1 := nb.at1; have nbg := nb.1; have Hnb := Lib.hid nb; clear nb
    go_wp2_with fail
    refine Calls.mono (spec_l20Count _ k n wr (H.out.up HO.out.ext) Hfit.out.fit) ?_
    rintro e w2 ⟨rfl, hx2⟩
    rw [Hc.out]
    have HO2 := Lib.hid (HO.out.more hx2)
    clear nb0 nb1 nbg Hnb hx2
    have hxw2 : Ext w w2 := HO2.out.ext
    have mb := HO2.out.box; have mb0 := mb.at0; have mb1 := mb.at1; have mbg := mb.1; have Hmb := Lib.hid mb; clear mb
    by_cases hlt : j < prodN n.sets
    · have T1 : decide ((j : Int) < (prodN n.sets : Int)) = true := decide_eq_true (by omega)
      have Hch := Lib.hid (Hfit.out.ch (chN_isCh n.sets j hlt))
      have hcl : (chN n.sets j).length = n.sets.length := (chN_isCh n.sets j hlt).len
      have hj4 : j ≤ 4096 := by have := Hfew.out; omega
      go_wp2_with fail
      go_region_held3 (fun w' => w'.cell? ⟨w.heap.size, 0, none⟩ = some (.slice As n.sets.length cs) ∧ w'.cell? ⟨w.heap.size, 1, none⟩ = some k ∧ Ext w2 w')
        (exact Ext.and_cell mbg mb0 (by repeat (first | exact Ext.refl _ | assumption | refine Ext.alloc ?_ _ | refine Ext.drew ?_ | refine Ext.drewN ?_ _ | refine Ext.setCell ?_ (by first | (simp; done) | (simp; omega) | omega) _ | refine Ext.trans ?_ (by assumption))) (Ext.and_cell mbg mb1 (by repeat (first | exact Ext.refl _ | assumption | refine Ext.alloc ?_ _ | refine Ext.drew ?_ | refine Ext.drewN ?_ _ | refine Ext.setCell ?_ (by first | (simp; done) | (simp; omega) | omega) _ | refine Ext.trans ?_ (by assumption))) (by repeat (first | exact Ext.refl _ | assumption | refine Ext.alloc ?_ _ | refine Ext.drew ?_ | refine Ext.drewN ?_ _ | refine Ext.setCell ?_ (by first | (simp; done) | (simp; omega) | omega) _ | refine Ext.trans ?_ (by assumption)))))
        (first
        | (go_simp; go_at_call 59; refine Calls.mono (spec_l20Choice _ k n j _ (H.out.up (by repeat (first | exact Ext.refl _ | assumption | refine Ext.alloc ?_ _ | refine Ext.drew ?_ | refine Ext.drewN ?_ _ | refine Ext.setCell ?_ (by first | (simp; done) | (simp; omega) | omega) _ | refine Ext.trans ?_ (by assumption)))) hlt hj4 h8 Hfit.out.fit) ?_; rintro e wc ⟨uv, rfl, hxc, huc⟩; have Huc := Lib.hid (Spans.of_owned huc); have hxwc : Ext w2 wc := (by repeat (first | exact Ext.refl _ | assumption | refine Ext.alloc ?_ _ | refine Ext.drew ?_ | refine Ext.drewN ?_ _ | refine Ext.setCell ?_ (by first | (simp; done) | (simp; omega) | omega) _ | refine Ext.trans ?_ (by assumption))); have cb := HO2.out.box.ext hxwc; have cb0 := cb.at0; have cb1 := cb.at1; have cbg := cb.1; have Hcb := Lib.hid cb; clear cb; clear huc)
        | (go_simp; go_at_call 58; refine Calls.mono (spec_l20Bounds _ k uv n (chN n.sets j) _ (H.out.up (by repeat (first | exact Ext.refl _ | assumption | refine Ext.alloc ?_ _ | refine Ext.drew ?_ | refine Ext.drewN ?_ _ | refine Ext.setCell ?_ (by first | (simp; done) | (simp; omega) | omega) _ | refine Ext.trans ?_ (by assumption)))) (Huc.out.up (by repeat (first | exact Ext.refl _ | assumption | refine Ext.alloc ?_ _ | refine Ext.drew ?_ | refine Ext.drewN ?_ _ | refine Ext.setCell ?_ (by first | (simp; done) | (simp; omega) | omega) _ | refine Ext.trans ?_ (by assumption)))) Hch.out.2.1 h21 Hch.out.2.2.1 Hch.out.2.2.2) ?_; rintro e w3 ⟨v1, v2, rfl, hxb, hbb⟩; have Hbb := Lib.hid hbb; clear hbb))
      all_goals
        have hxw3 : Ext w2 w3 := (by repeat (first | exact Ext.refl _ | assumption | refine Ext.alloc ?_ _ | refine Ext.drew ?_ | refine Ext.drewN ?_ _ | refine Ext.setCell ?_ (by first | (simp; done) | (simp; omega) | omega) _ | refine Ext.trans ?_ (by assumption)))
        have hzc := hxwc.size
        have hz2w := hxw2.size
        have Hsz := Lib.hid (show ∀ b, Blks (w.heap.size + 1) n.sets.length f b → 0 < n.sets.length → w.heap.size + 1 ≤ b ∧ b < wc.heap.size from fun b hb hN => ⟨(HO2.out.tab.blk hN hb).1, by have := (HO2.out.tab.blk hN hb).2; omega⟩)
        have HO3 := Lib.hid (HO2.out.more hxw3)
        by_cases hcok : ChOk n.links (chN n.sets j)
        · have Hcok := Lib.hid hcok
          obtain ⟨g1, g2, hgs, ho1, ho2⟩ := Hbb.out hcok
          rw [B_true hcok]
          clear hcok
          rw [hcl] at hgs ho1 ho2
          obtain ⟨A1, q1, rfl⟩ := ho1.len
          obtain ⟨A2, q2, rfl⟩ := ho2.len
          have Ho1 := Lib.hid ho1
          have Ho2 := Lib.hid ho2
          have Hgs := Lib.hid hgs
          clear ho1 ho2 hgs
          go_wp2_with fail
          go_loopg [8, 9, 10, 11] n.sets.length (fun q i u9 u10 u11 wr' => ∃ (m : Nat) (f1 : Nat → Value), m + q = n.sets.length ∧ i = .int .i64 m ∧ Hid (PsR 89 n (.slice As n.sets.length cs) k w f w3 j m f1 wr'))
          case atStart => exact ⟨0, f, by omega, rfl, Lib.hid HO3.out.inner⟩
          case round =>
            obtain ⟨m, f1, hm, rfl, HR⟩ := hrel
            by_cases hmlt : m < n.sets.length
            · have hN : 0 < n.sets.length := by omega
              have hwr := HR.out.off.size
              obtain ⟨off0, e0, hg0, hhd⟩ := HR.out.tab.head.at_ hN
              injection e0 with e0
              injection e0 with _ e0
              subst e0
              obtain ⟨hc1, hc2⟩ := hhd m (by omega)
              rw [Nat.zero_add] at hc1 hc2
              have hrow := HR.out.tab.rows m hmlt
              rw [psRow_at] at hrow
              have hml : (psTo n m j).length ≤ 4096 := by have := psTo_len n m j; omega
              obtain ⟨Aj, cj, ej⟩ := ownsRow_len hrow
              rw [ej] at hc1 hrow
              have Hej := Lib.hid ej
              have Hrow := Lib.hid hrow
              obtain ⟨o1, rfl, hz1, hl1⟩ := (Ho1.out.off HR.out.off (fun h0 hh => by have := (Hsz.out _ hh.2 hh.1).2; have := (Hgs.out h0).1; omega)).at_ hN
              obtain ⟨o2, rfl, hz2, hl2⟩ := (Ho2.out.off HR.out.off (fun h0 hh => by have := (Hsz.out _ hh.2 hh.1).2; have := (Hgs.out h0).2.1; omega)).at_ hN
              have d1 := (hl1 m (by omega)).1
              have d2 := (hl2 m (by omega)).1
              unfold intCell at d1 d2
              obtain ⟨x1, hx1⟩ : ∃ x, x = inAt (lowV n.links (chN n.sets j)) m := ⟨_, rfl⟩
              obtain ⟨x2, hx2⟩ : ∃ x, x = inAt (highV n.links (chN n.sets j)) m := ⟨_, rfl⟩
              rw [← hx1] at d1
              rw [← hx2] at d2
              have Hsat : Hid (sAt n m (chN n.sets j) = ⟨x1, x2⟩) := Lib.hid (by unfold sAt; rw [hx1, hx2])
              have hji : (m : Int) < (n.sets.length : Int) := by omega
              have hj0 : (0 : Int) ≤ (m : Int) := by omega
              clear hx1 hx2 hl1 hl2 hhd ej hrow
              go_wp2_with fail
              go_region_held3 (fun w' => w'.cell? ⟨g1, o1 + m, none⟩ = some (.int .i64 x1) ∧ w'.cell? ⟨g2, o2 + m, none⟩ = some (.int .i64 x2) ∧ Ext wr w')
                (exact Ext.and_cell hz1 d1 (by repeat (first | exact Ext.refl _ | assumption | refine Ext.alloc ?_ _ | refine Ext.drew ?_ | refine Ext.drewN ?_ _ | refine Ext.setCell ?_ (by first | (simp; done) | (simp; omega) | omega) _ | refine Ext.trans ?_ (by assumption))) (Ext.and_cell hz2 d2 (by repeat (first | exact Ext.refl _ | assumption | refine Ext.alloc ?_ _ | refine Ext.drew ?_ | refine Ext.drewN ?_ _ | refine Ext.setCell ?_ (by first | (simp; done) | (simp; omega) | omega) _ | refine Ext.trans ?_ (by assumption))) (by repeat (first | exact Ext.refl _ | assumption | refine Ext.alloc ?_ _ | refine Ext.drew ?_ | refine Ext.drewN ?_ _ | refine Ext.setCell ?_ (by first | (simp; done) | (simp; omega) | omega) _ | refine Ext.trans ?_ (by assumption)))))
                (fail)
              have Hcur := Lib.hid (Boxed.new wr [.int .i64 x1, .int .i64 x2] 89)
              have hb9 : Ext wr (wr.alloc (.cells #[.int .i64 x1, .int .i64 x2] 89)) := (by repeat (first | exact Ext.refl _ | assumption | refine Ext.alloc ?_ _ | refine Ext.drew ?_ | refine Ext.drewN ?_ _ | refine Ext.setCell ?_ (by first | (simp; done) | (simp; omega) | omega) _ | refine Ext.trans ?_ (by assumption)))
              have Hb0 : Hid (false = B (Some_ 0 (fun t => (spAt (psTo n m j) t).fr ≤ x1 ∧ x2 ≤ (spAt (psTo n m j) t).to))) := Lib.hid (B_false (fun hh => by obtain ⟨i, hi, _⟩ := hh; omega)).symm
              obtain ⟨w5, hw5⟩ : ∃ x : World, x = wr.alloc (.cells #[.int .i64 x1, .int .i64 x2] 89) := ⟨_, rfl⟩
              rw [← hw5] at Hcur hb9
              go_wp2_with fail
              rw [← hw5]
              clear hw5 d1 d2
              obtain ⟨wi, hwi⟩ : ∃ x : World, x = wr := ⟨_, rfl⟩
              rw [← hwi] at hb9 Hrow hg0 hc1 hc2 Hcur HR hz1 hz2 hwr
              rw [← hwi]
              clear hwi
              go_loopg [10, 11] (psTo n m j).length (fun q u10 u11 wr => ∃ (b : Bool) (t : Nat), t + q = (psTo n m j).length ∧ u11 = .int .i64 t ∧ u10 = .bool b ∧ Hid (b = B (Some_ t (fun t => (spAt (psTo n m j) t).fr ≤ x1 ∧ x2 ≤ (spAt (psTo n m j) t).to))) ∧ Ext wi wr ∧ Boxed wr wi.heap.size [.int .i64 x1, .int .i64 x2])
              case atStart => exact ⟨false, 0, by omega, rfl, rfl, Hb0, hb9.trans ((Ext.refl _).drew), Hcur.out.ext ((Ext.refl _).drew)⟩
              clear Hcur hb9 Hb0
              case round =>
                obtain ⟨b, t, ht, rfl, rfl, Hbb2, hx5, hbx⟩ := hrel
                have k1 := (hx5.cell (p := ⟨w.heap.size + 1, m, none⟩) hg0).trans hc1
                have k2 := (hx5.frozen (p := ⟨w.heap.size + 1, m, none⟩) hg0).trans hc2
                have vb := hbx; have vb0 := vb.at0; have vb1 := vb.at1; have vbg := vb.1; have Hvb := Lib.hid vb; clear vb
                clear hbx
                by_cases htl : t < (psTo n m j).length
                · obtain ⟨b4, off4, rfl, _, hb4, y1, y2⟩ := (Spans.of_owned (row_ext Hrow.out hx5)).at_ htl
                  have hti : (t : Int) < ((psTo n m j).length : Int) := by omega
                  have ht0 : (0 : Int) ≤ (t : Int) := by omega
                  have htk : decide ((t : Int) < ((psTo n m j).length : Int)) = true := decide_eq_true hti
                  cases b with
                  | true =>
                    go_wp2_with fail
                    go_quiet (fail)
                    go_wp2_with fail
                    go_roundg ((psTo n m j).length - (t + 1))
                    case measure => omega
                    case rel => exact ⟨true, t + 1, by omega, by go_num, rfl, Lib.hid (B_true (some_step.2 (.inl (B_iff.1 Hbb2.out.symm)))).symm, (by repeat (first | exact Ext.refl _ | assumption | refine Ext.alloc ?_ _ | refine Ext.drew ?_ | refine Ext.drewN ?_ _ | refine Ext.setCell ?_ (by first | (simp; done) | (simp; omega) | omega) _ | refine Ext.trans ?_ (by assumption))), Hvb.out.ext (by repeat (first | exact Ext.refl _ | assumption | refine Ext.alloc ?_ _ | refine Ext.drew ?_ | refine Ext.drewN ?_ _ | refine Ext.setCell ?_ (by first | (simp; done) | (simp; omega) | omega) _ | refine Ext.trans ?_ (by assumption)))⟩
                  | false =>
                    have Hno : Hid (¬ Some_ t (fun t => (spAt (psTo n m j) t).fr ≤ x1 ∧ x2 ≤ (spAt (psTo n m j) t).to)) := Lib.hid (fun hh => by have := (B_true hh).symm.trans Hbb2.out.symm; simp at this)
                    by_cases h1 : (spAt (psTo n m j) t).fr ≤ x1
                    · have h1' : decide ((spAt (psTo n m j) t).fr ≤ x1) = true := decide_eq_true h1
                      go_wp2_with fail
                      go_quiet (fail)
                      go_wp2_with fail
                      go_roundg ((psTo n m j).length - (t + 1))
                      case measure => omega
                      case rel => exact ⟨_, t + 1, by omega, by go_num, rfl, Lib.hid (some_dec Hno.out (by omega)), (by repeat (first | exact Ext.refl _ | assumption | refine Ext.alloc ?_ _ | refine Ext.drew ?_ | refine Ext.drewN ?_ _ | refine Ext.setCell ?_ (by first | (simp; done) | (simp; omega) | omega) _ | refine Ext.trans ?_ (by assumption))), Hvb.out.ext (by repeat (first | exact Ext.refl _ | assumption | refine Ext.alloc ?_ _ | refine Ext.drew ?_ | refine Ext.drewN ?_ _ | refine Ext.setCell ?_ (by first | (simp; done) | (simp; omega) | omega) _ | refine Ext.trans ?_ (by assumption)))⟩
                    · have h1' : decide ((spAt (psTo n m j) t).fr ≤ x1) = false := decide_eq_false h1
                      go_wp2_with fail
                      go_quiet (fail)
                      go_wp2_with fail
                      go_roundg ((psTo n m j).length - (t + 1))
                      case measure => omega
                      case rel => exact ⟨false, t + 1, by omega, by go_num, rfl, Lib.hid (B_false (fun hh => by rcases some_step.1 hh with e | e; exact Hno.out e; have := e.1; omega)).symm, (by repeat (first | exact Ext.refl _ | assumption | refine Ext.alloc ?_ _ | refine Ext.drew ?_ | refine Ext.drewN ?_ _ | refine Ext.setCell ?_ (by first | (simp; done) | (simp; omega) | omega) _ | refine Ext.trans ?_ (by assumption))), Hvb.out.ext (by repeat (first | exact Ext.refl _ | assumption | refine Ext.alloc ?_ _ | refine Ext.drew ?_ | refine Ext.drewN ?_ _ | refine Ext.setCell ?_ (by first | (simp; done) | (simp; omega) | omega) _ | refine Ext.trans ?_ (by assumption)))⟩
                · obtain rfl : t = (psTo n m j).length := by omega
                  cases b with
                  | true =>
                    have Hsk := Lib.hid (HR.out.skip (psTo_no (fun hh => hh.2 (by rw [Hsat.out]; exact B_iff.1 Hbb2.out.symm))) hx5)
                    go_wp2_with fail
                    go_roundg (n.sets.length - (m + 1))
                    case measure => omega
                    case rel => exact ⟨m + 1, _, by omega, by go_num, Hsk⟩
                  | false =>
                    have Hps := Lib.hid (psTo_yes (n := n) (i := m) (k := j) Hcok.out (by rw [Hsat.out]; exact fun hh => by have := (B_true (show Some_ _ _ from hh)).symm.trans Hbb2.out.symm; simp at this))
                    have hgw : w.heap.size + 1 < wr.heap.size := by have := hx5.size; omega
                    have Hob := Lib.hid (show ∀ k, Value.ownBlock (.slice Aj (psTo n m j).length cj) = some k → k ≠ w.heap.size + 1 from fun k hk => HR.out.tab.ne m hmlt k (by rw [Hej.out]; exact hk))
                    have hji : (m : Int) < (n.sets.length : Int) := by omega
                    have hj0 : (0 : Int) ≤ (m : Int) := by omega
                    go_wp2_with fail
                    go_region_law (first
                      | (refine step_append_row rfl (.tmp 94) (.tmp 96) 41 rfl (w.heap.size + 1) 89 2 16 Tryz.underlying41 (by kernel_rfl) (by omega) _ (psTo n m j).length 1 _ rfl (.inl (row_ext Hrow.out (by repeat (first | exact Ext.refl _ | assumption | refine Ext.alloc ?_ _ | refine Ext.drew ?_ | refine Ext.drewN ?_ _ | refine Ext.setCell ?_ (by first | (simp; done) | (simp; omega) | omega) _ | refine Ext.trans ?_ (by assumption))))) (.inr (by omega)) 0 _ _ (spanCell [⟨x1, x2⟩]) rfl (((Boxed.new wr [.int .i64 x1, .int .i64 x2] 89).ext (by repeat (first | exact Ext.refl _ | assumption | refine Ext.alloc ?_ _ | refine Ext.drew ?_ | refine Ext.drewN ?_ _ | refine Ext.setCell ?_ (by first | (simp; done) | (simp; omega) | omega) _ | refine Ext.trans ?_ (by assumption)))).row rfl (span_cells _ _)) (fun i _ => spanCell_one _ i) (by unfold maxLen; omega) (by omega) (by simp; omega) ?_; intro v3 w3' hown3 hput3; obtain ⟨Av3, cv3, rfl⟩ := ownsRow_len hown3; have hoff3 := (Off.of_ext (S := fun k => w.heap.size + 1 ≤ k ∧ k < _ ∧ Value.ownBlock (.slice Aj (psTo n m j).length cj) = some k) (show Ext wr _ from (by repeat (first | exact Ext.refl _ | assumption | refine Ext.alloc ?_ _ | refine Ext.drew ?_ | refine Ext.drewN ?_ _ | refine Ext.setCell ?_ (by first | (simp; done) | (simp; omega) | omega) _ | refine Ext.trans ?_ (by assumption))))).trans hput3.1; have k3 := (hoff3.cell (p := ⟨w.heap.size + 1, m, none⟩) hgw (fun hh => Hob.out _ hh.2.2 rfl)).trans k1; have k4 := (hoff3.frozen (p := ⟨w.heap.size + 1, m, none⟩) hgw (fun hh => Hob.out _ hh.2.2 rfl)).trans k2; have Hst := Lib.hid (HR.out.step hmlt Hps.out Hej.out rfl (show Ext wi _ from (by repeat (first | exact Ext.refl _ | assumption | refine Ext.alloc ?_ _ | refine Ext.drew ?_ | refine Ext.drewN ?_ _ | refine Ext.setCell ?_ (by first | (simp; done) | (simp; omega) | omega) _ | refine Ext.trans ?_ (by assumption)))) hput3 (by rw [Hsat.out]; exact hown3)); clear hoff3 hown3 hput3))
                    all_goals
                      clear k1 k2 k3 k4 vb0 vb1 hc1 hc2
                      go_wp2_with fail
                      go_roundg (n.sets.length - (m + 1))
                      case measure => omega
                      case rel => exact ⟨m + 1, _, by omega, by go_num, Hst⟩
            · obtain rfl : m = n.sets.length := by omega
              have HD := Lib.hid (PsR.done HO3.out HR.out)
              go_wp2_with fail
              go_roundg (prodN n.sets - (j + 1))
              case measure => omega
              case rel => exact ⟨j + 1, _, by omega, by go_num, HD⟩
        · have Hcok := Lib.hid hcok
          rw [B_false hcok]
          clear hcok
          go_wp2_with fail
          go_loopg [8, 9, 10, 11] 0 (fun q i u9 u10 u11 wr' => i = .int .i64 0 ∧ Ext w3 wr')
          case atStart => exact ⟨rfl, (by repeat (first | exact Ext.refl _ | assumption | refine Ext.alloc ?_ _ | refine Ext.drew ?_ | refine Ext.drewN ?_ _ | refine Ext.setCell ?_ (by first | (simp; done) | (simp; omega) | omega) _ | refine Ext.trans ?_ (by assumption)))⟩
          case round =>
            obtain ⟨rfl, hx4⟩ := hrel
            go_wp2_with fail
            go_roundg (prodN n.sets - (j + 1))
            case measure => omega
            case rel => exact ⟨j + 1, _, by omega, by go_num, Lib.hid (HO3.out.none_ Hcok.out (by repeat (first | exact Ext.refl _ | assumption | refine Ext.alloc ?_ _ | refine Ext.drew ?_ | refine Ext.drewN ?_ _ | refine Ext.setCell ?_ (by first | (simp; done) | (simp; omega) | omega) _ | refine Ext.trans ?_ (by assumption))))⟩
    · obtain rfl : j = prodN n.sets := by omega
      have T1 : decide (((prodN n.sets : Nat) : Int) < (prodN n.sets : Int)) = false := decide_eq_false (by omega)
      have hwz := hxw2.size
      go_wp2_with fail
      go_loopg [12, 13] n.sets.length (fun q u12 u13 wr => ∃ (m : Nat) (A : Option Addr) (c : Nat) (L : List (List Sp)), m + q = n.sets.length ∧ u13 = .int .i64 m ∧ u12 = .slice A L.length c ∧ Hid (L = (List.range m).map (posL n)) ∧ Ext w2 wr ∧ SetsBy 41 wr w2.heap.size (.slice A L.length c) L)
      case atStart => exact ⟨0, _, _, [], by omega, rfl, rfl, Lib.hid rfl, (by repeat (first | exact Ext.refl _ | assumption | refine Ext.alloc ?_ _ | refine Ext.drew ?_ | refine Ext.drewN ?_ _ | refine Ext.setCell ?_ (by first | (simp; done) | (simp; omega) | omega) _ | refine Ext.trans ?_ (by assumption))), SetsBy.of_empty (.inr ⟨rfl, rfl, ⟨_, rfl⟩, fun g hg => by simp [Value.ownBlock] at hg; simp; omega⟩)⟩
      case round =>
        obtain ⟨m, Asv, csv, L, hm, rfl, rfl, HL, hx3, fs, hsf⟩ := hrel
        have Hls : Hid (L.length = m) := Lib.hid (by rw [HL.out]; simp)
        by_cases hmlt : m < n.sets.length
        · have hN : 0 < n.sets.length := by omega
          have htab := HO2.out.tab.ext hx3
          obtain ⟨off0, e0, hg0, hhd⟩ := htab.head.at_ hN
          injection e0 with e0
          injection e0 with _ e0
          subst e0
          obtain ⟨hc1, hc2⟩ := hhd m (by omega)
          rw [Nat.zero_add] at hc1 hc2
          have hrow := htab.rows m hmlt
          obtain ⟨Aj, cj, ej⟩ := ownsRow_len hrow
          rw [ej] at hc1 hrow
          have Hrow := Lib.hid (Spans.of_owned hrow)
          have hml : (psTo n m (prodN n.sets)).length ≤ 1048576 := by have := psTo_len n m (prodN n.sets); have := Hfew.out; omega
          have Hbd := Lib.hid (show ∀ i, i < (psTo n m (prodN n.sets)).length → SpBd (spAt (psTo n m (prodN n.sets)) i) from fun i hi => by
            obtain ⟨_, ⟨a1, a2⟩, ⟨a3, a4⟩⟩ := psTo_ok Hok.out hmlt (Nat.le_refl _) _ (spAt_mem hi)
            unfold SpBd
            omega)
          have hji : (m : Int) < (n.sets.length : Int) := by omega
          have hj0 : (0 : Int) ≤ (m : Int) := by omega
          have Hsf := Lib.hid hsf
          clear hhd hrow ej hsf htab
          go_wp2_with fail
          refine Calls.mono (spec_l02Make _ (psTo n m (prodN n.sets)) _ Hrow.out hml Hbd.out) ?_
          rintro e w4 ⟨v4, rfl, hx4, hr4⟩
          obtain ⟨A4, c4, rfl⟩ := ownsRow_len hr4
          have hx24 : Ext w2 w4 := hx3.trans hx4
          have hz3 := hx3.size
          have hz4 := hx4.size
          have Hr4 := Lib.hid hr4
          clear hr4 hc1 hc2
          go_wp2_with (at_builtin; refine wpList_append_row _ rfl _ _ 24 rfl w2.heap.size 41 1 24 Tryz.underlying24 (by kernel_rfl) (by omega) _ L.length 1 _ rfl (Hsf.out.ext (by repeat (first | exact Ext.refl _ | assumption | refine Ext.alloc ?_ _ | refine Ext.drew ?_ | refine Ext.drewN ?_ _ | refine Ext.setCell ?_ (by first | (simp; done) | (simp; omega) | omega) _ | refine Ext.trans ?_ (by assumption)))).1 (.inr (by omega)) 0 _ _ (fun _ => .slice A4 (mkL (psTo n m (prodN n.sets))).length c4) rfl ((Boxed.new w4 [.slice A4 (mkL (psTo n m (prodN n.sets))).length c4] 41).row1) (fun _ _ => rfl) (by have := Hls.out; unfold maxLen; omega) (by have := Hls.out; omega) (by have := Hls.out; simp; omega) ?_; intro v5 w5 hown5 hput5; obtain ⟨Av5, cv5, rfl⟩ := ownsRow_len hown5; have hx5 : Ext w2 w5 := hput5.ext (by repeat (first | exact Ext.refl _ | assumption | refine Ext.alloc ?_ _ | refine Ext.drew ?_ | refine Ext.drewN ?_ _ | refine Ext.setCell ?_ (by first | (simp; done) | (simp; omega) | omega) _ | refine Ext.trans ?_ (by assumption))) (Nat.le_refl _); have Hst : Hid (SetsBy 41 w5 w2.heap.size (.slice Av5 (L.length + 1) cv5) ((List.range (m + 1)).map (posL n))) := (by
            obtain ⟨gu, q1, q2⟩ := Own.of_owned (row_ext Hr4.out ((Ext.refl w4).alloc (.cells #[.slice A4 (mkL (psTo n m (prodN n.sets))).length c4] 41)))
            have := SetsF.push (s := posL n m) Hsf.out (hx4.trans ((Ext.refl w4).alloc (.cells #[.slice A4 (mkL (psTo n m (prodN n.sets))).length c4] 41))) (fun h0 => (q1 h0).2) hz3 q2 hput5 hown5
            rw [List.range_succ, List.map_append, ← HL.out]
            exact Lib.hid this); clear hown5 hput5)
          go_roundg (n.sets.length - (m + 1))
          case measure => omega
          case rel => exact ⟨m + 1, Av5, cv5, (List.range (m + 1)).map (posL n), by omega, by go_num, by simp [Hls.out], Lib.hid rfl, hx5, by simpa [Hls.out] using Hst.out⟩
        · obtain rfl : m = n.sets.length := by omega
          have Hdone : Hid (OwnSets wr w2.heap.size wr.heap.size (.slice Asv L.length csv) (posSS n)) := Lib.hid (by have := SetsBy.sets ⟨fs, hsf⟩; rw [HL.out] at this ⊢; exact this)
          have hlen : (n.sets.length : Int) < (n.sets.length : Int) ↔ False := by simp
          clear hsf
          go_wp2_with fail
          go_ret
          refine ⟨_, rfl, hxw2.trans (by repeat (first | exact Ext.refl _ | assumption | refine Ext.alloc ?_ _ | refine Ext.drew ?_ | refine Ext.drewN ?_ _ | refine Ext.setCell ?_ (by first | (simp; done) | (simp; omega) | omega) _ | refine Ext.trans ?_ (by assumption))), ?_⟩
          obtain ⟨g0', f', g', d1, d2, d3, d4⟩ := Hdone.out
          exact ⟨g0', f', g', d1, fun h0 => ⟨by have := (d2 h0).1; omega, (d2 h0).2⟩, fun i hi => ⟨(d3 i hi).1, fun h0 => ⟨by have := ((d3 i hi).2 h0).1; omega, ((d3 i hi).2 h0).2⟩⟩, d4⟩
end Go.Proofs.YtfajmlkiidnhlaaGreat
