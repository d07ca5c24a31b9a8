/- The laws' own copies of slices (to..S) and comparisons (eq..). -/
import Derived.Test.YtfmnkojjkjkdeaaDoorE
namespace Go.Proofs.YtfmnkojjkjkdeaaDoor
set_option linter.unusedVariables false
set_option linter.unusedSimpArgs false
open Go.RowKit
attribute [local go_sem] cell_onto

set_option maxHeartbeats 1000000 in
theorem laws_toSpanS (v : Value) (l : List Sp) (lo hi : Nat) (w : World) (h : Spans w lo hi v l) (hh : hi ≤ w.heap.size) (hsm : l.length ≤ 1048576) :
    Calls Tryd.prog 57 #[v] w (NewRow 2 l.length (spanCell l) w) := by
  obtain ⟨A, c, rfl, hn, hc⟩ := h.len
  have H := Lib.hid h
  clear h
  go_enter Tryd.func57, Tryd.ntmps57
  go_wp2_with (at_make; refine wpList_make_blk _ rfl _ _ 38 rfl 74 2 16 Tryd.underlying38 (by kernel_rfl) l.length rfl rfl (by omega) (by unfold maxLen; omega) ?_; intro w0 f0 hx0 hb0)
  have Hb0 := Lib.hid hb0
  clear hb0
  go_wp2_with fail
  go_loopg [4] l.length (fun m i wr => ∃ (j : Nat) (f : Nat → Value), j + m = l.length ∧ i = .int .i64 j ∧ Ext w wr ∧ Blk wr w.heap.size (l.length * 2) f ∧ ∀ i, i < j * 2 → f i = spanCell l i)
  case atStart => exact ⟨0, f0, by omega, rfl, (by repeat (first | exact Ext.refl _ | assumption | refine Ext.alloc ?_ _ | refine Ext.drew ?_ | refine Ext.drewN ?_ _ | refine Ext.setCell ?_ (by first | (simp; done) | (simp; omega) | omega) _ | refine Ext.trans ?_ (by assumption))), Hb0.out, fun i hi => absurd hi (by omega)⟩
  case round =>
    obtain ⟨j, f, hj, rfl, hx, hbl, hok⟩ := hrel
    have Hok := Lib.hid hok
    clear hok
    have hbgr := hbl.1
    by_cases hlt : j < l.length
    · obtain ⟨b, off, rfl, _, hb, h1, h2⟩ := (H.out.ext hx hh).at_ hlt
      have hbw : b < wr.heap.size := by have := hx.size; omega
      go_wp2_with fail
      refine (laws_toSpan _ _ wr).mono ?_
      rintro e w1 ⟨rfl, hx1⟩
      have hc0 := (hbl.ext hx1).2 (j * 2) (by omega)
      have hc0a := hc0.1
      have hc0b := hc0.2
      have hc1 := (hbl.ext hx1).2 (j * 2 + 1) (by omega)
      have hc1a := hc1.1
      have hc1b := hc1.2
      have Hbl := Lib.hid (hbl.ext hx1)
      clear hbl
      have hbg := Hbl.out.1
      go_wp2_with fail
      go_roundg (l.length - (j + 1))
      case measure => omega
      case rel =>
        refine ⟨j + 1, _, by omega, by go_num, (by repeat (first | exact Ext.refl _ | assumption | refine Ext.alloc ?_ _ | refine Ext.drew ?_ | refine Ext.drewN ?_ _ | refine Ext.setCell ?_ (by first | (simp; done) | (simp; omega) | omega) _ | refine Ext.trans ?_ (by assumption))), ((Hbl.out.set (j * 2) (.int .i64 (spAt l j).fr) (by omega)).set (j * 2 + 1) (.int .i64 (spAt l j).to) (by omega)), fun i hi => ?_⟩
        by_cases e1 : i = j * 2 + 1
        · subst e1; simp [spanCell, show (j * 2 + 1) % 2 = 1 from by omega, show (j * 2 + 1) / 2 = j from by omega]
        rw [if_neg e1]
        by_cases e0 : i = j * 2
        · subst e0; simp [spanCell, show (j * 2) % 2 = 0 from by omega, show (j * 2) / 2 = j from by omega]
        rw [if_neg e0]
        exact Hok.out i (by omega)
    · obtain rfl : j = l.length := by omega
      have Hbl := Lib.hid hbl
      clear hbl
      go_wp2_with fail
      go_ret
      exact ⟨_, w.heap.size, rfl, (by repeat (first | exact Ext.refl _ | assumption | refine Ext.alloc ?_ _ | refine Ext.drew ?_ | refine Ext.drewN ?_ _ | refine Ext.setCell ?_ (by first | (simp; done) | (simp; omega) | omega) _ | refine Ext.trans ?_ (by assumption))), fun _ => Nat.le_refl _, Hbl.out.own (Nat.le_refl _) (by unfold maxLen; omega) (Nat.le_refl _) Hok.out⟩

set_option maxHeartbeats 1000000 in
theorem laws_toLinkS (v : Value) (l : List Lk) (lo hi : Nat) (w : World) (h : Links w lo hi v l) (hh : hi ≤ w.heap.size) (hsm : l.length ≤ 1048576) :
    Calls Tryd.prog 32 #[v] w (NewRow 4 l.length (linkCell l) w) := by
  obtain ⟨A, c, rfl, hn, hc⟩ := h.len
  have H := Lib.hid h
  clear h
  go_enter Tryd.func32, Tryd.ntmps32
  go_wp2_with (at_make; refine wpList_make_blk _ rfl _ _ 30 rfl 58 4 32 Tryd.underlying30 (by kernel_rfl) l.length rfl rfl (by omega) (by unfold maxLen; omega) ?_; intro w0 f0 hx0 hb0)
  have Hb0 := Lib.hid hb0
  clear hb0
  go_wp2_with fail
  go_loopg [4] l.length (fun m i wr => ∃ (j : Nat) (f : Nat → Value), j + m = l.length ∧ i = .int .i64 j ∧ Ext w wr ∧ Blk wr w.heap.size (l.length * 4) f ∧ ∀ i, i < j * 4 → f i = linkCell l i)
  case atStart => exact ⟨0, f0, by omega, rfl, (by repeat (first | exact Ext.refl _ | assumption | refine Ext.alloc ?_ _ | refine Ext.drew ?_ | refine Ext.drewN ?_ _ | refine Ext.setCell ?_ (by first | (simp; done) | (simp; omega) | omega) _ | refine Ext.trans ?_ (by assumption))), Hb0.out, fun i hi => absurd hi (by omega)⟩
  case round =>
    obtain ⟨j, f, hj, rfl, hx, hbl, hok⟩ := hrel
    have Hok := Lib.hid hok
    clear hok
    have hbgr := hbl.1
    by_cases hlt : j < l.length
    · obtain ⟨b, off, rfl, _, hb, h1, h2, h3, h4⟩ := (H.out.ext hx hh).at_ hlt
      have hbw : b < wr.heap.size := by have := hx.size; omega
      go_wp2_with fail
      refine (laws_toLink _ _ _ _ wr).mono ?_
      rintro e w1 ⟨rfl, hx1⟩
      have hc0 := (hbl.ext hx1).2 (j * 4) (by omega)
      have hc0a := hc0.1
      have hc0b := hc0.2
      have hc1 := (hbl.ext hx1).2 (j * 4 + 1) (by omega)
      have hc1a := hc1.1
      have hc1b := hc1.2
      have hc2 := (hbl.ext hx1).2 (j * 4 + 2) (by omega)
      have hc2a := hc2.1
      have hc2b := hc2.2
      have hc3 := (hbl.ext hx1).2 (j * 4 + 3) (by omega)
      have hc3a := hc3.1
      have hc3b := hc3.2
      have Hbl := Lib.hid (hbl.ext hx1)
      clear hbl
      have hbg := Hbl.out.1
      go_wp2_with fail
      go_roundg (l.length - (j + 1))
      case measure => omega
      case rel =>
        refine ⟨j + 1, _, by omega, by go_num, (by repeat (first | exact Ext.refl _ | assumption | refine Ext.alloc ?_ _ | refine Ext.drew ?_ | refine Ext.drewN ?_ _ | refine Ext.setCell ?_ (by first | (simp; done) | (simp; omega) | omega) _ | refine Ext.trans ?_ (by assumption))), ((((Hbl.out.set (j * 4) (.int .i64 (lkAt l j).be) (by omega)).set (j * 4 + 1) (.int .i64 (lkAt l j).af) (by omega)).set (j * 4 + 2) (.int .i64 (lkAt l j).le) (by omega)).set (j * 4 + 3) (.int .i64 (lkAt l j).mo) (by omega)), fun i hi => ?_⟩
        by_cases e3 : i = j * 4 + 3
        · subst e3; simp [linkCell, show (j * 4 + 3) % 4 = 3 from by omega, show (j * 4 + 3) / 4 = j from by omega]
        rw [if_neg e3]
        by_cases e2 : i = j * 4 + 2
        · subst e2; simp [linkCell, show (j * 4 + 2) % 4 = 2 from by omega, show (j * 4 + 2) / 4 = j from by omega]
        rw [if_neg e2]
        by_cases e1 : i = j * 4 + 1
        · subst e1; simp [linkCell, show (j * 4 + 1) % 4 = 1 from by omega, show (j * 4 + 1) / 4 = j from by omega]
        rw [if_neg e1]
        by_cases e0 : i = j * 4
        · subst e0; simp [linkCell, show (j * 4) % 4 = 0 from by omega, show (j * 4) / 4 = j from by omega]
        rw [if_neg e0]
        exact Hok.out i (by omega)
    · obtain rfl : j = l.length := by omega
      have Hbl := Lib.hid hbl
      clear hbl
      go_wp2_with fail
      go_ret
      exact ⟨_, w.heap.size, rfl, (by repeat (first | exact Ext.refl _ | assumption | refine Ext.alloc ?_ _ | refine Ext.drew ?_ | refine Ext.drewN ?_ _ | refine Ext.setCell ?_ (by first | (simp; done) | (simp; omega) | omega) _ | refine Ext.trans ?_ (by assumption))), fun _ => Nat.le_refl _, Hbl.out.own (Nat.le_refl _) (by unfold maxLen; omega) (Nat.le_refl _) Hok.out⟩


def NewSets (l : List (List Sp)) (w : World) (e : Ending) (w' : World) : Prop := ∃ v, e = .returned v ∧ Ext w w' ∧ OwnSets w' w.heap.size w'.heap.size v l
def NewNet (n : Net) (w : World) (e : Ending) (w' : World) : Prop := ∃ s k, e = .returned (.agg #[s, k]) ∧ Ext w w' ∧ OwnNet w' w.heap.size w'.heap.size (.agg #[s, k]) n

set_option maxHeartbeats 1000000 in
theorem laws_toSpanSS (v : Value) (l : List (List Sp)) (hi : Nat) (w : World) (h : Sets w 0 hi v l) (hh : hi ≤ w.heap.size) (hsm : l.length ≤ 1048576) (hsi : ∀ i, i < l.length → (setAt l i).length ≤ 1048576) :
    Calls Tryd.prog 31 #[v] w (NewSets l w) := by
  obtain ⟨A, c, rfl, hn, hc⟩ := h.len
  have H := Lib.hid h
  have Hsi := Lib.hid hsi
  clear h hsi
  go_enter Tryd.func31, Tryd.ntmps31
  go_wp2_with (at_make; refine wpList_make_blk _ rfl _ _ 29 rfl 38 1 24 Tryd.underlying29 (by kernel_rfl) l.length rfl rfl (by omega) (by unfold maxLen; omega) ?_; intro w0 f0 hx0 hb0)
  have Hb0 := Lib.hid hb0
  clear hb0
  go_wp2_with fail
  go_loopg [4] l.length (fun m i wr => ∃ (j : Nat) (f : Nat → Value) (g : Nat → Nat), j + m = l.length ∧ i = .int .i64 j ∧ Ext w wr ∧ Blk wr w.heap.size (l.length * 1) f ∧
    (∀ i, i < j → Own wr (g i) 2 (f i) (setAt l i).length (spanCell (setAt l i)) ∧ (0 < (setAt l i).length → w.heap.size < g i ∧ g i < wr.heap.size)) ∧ (∀ i i', i < j → i' < j → i ≠ i' → 0 < (setAt l i).length → 0 < (setAt l i').length → g i ≠ g i'))
  case atStart => exact ⟨0, f0, fun _ => 0, by omega, rfl, (by repeat (first | exact Ext.refl _ | assumption | refine Ext.alloc ?_ _ | refine Ext.drew ?_ | refine Ext.drewN ?_ _ | refine Ext.setCell ?_ (by first | (simp; done) | (simp; omega) | omega) _ | refine Ext.trans ?_ (by assumption))), Hb0.out, fun i hi => absurd hi (by omega), fun i i' hi => absurd hi (by omega)⟩
  case round =>
    obtain ⟨j, f, g, hj, rfl, hx, hbl, hok, hmo⟩ := hrel
    have Hok := Lib.hid hok
    have Hmo := Lib.hid hmo
    clear hok hmo
    have hbgr := hbl.1
    by_cases hlt : j < l.length
    · obtain ⟨b, off, u, rfl, _, hb, h1, h2⟩ := (H.out.ext hx hh).at_ hlt
      have H2 := Lib.hid h2
      clear h2
      go_wp2_with fail
      refine (laws_toSpanS u (setAt l j) 0 hi wr H2.out (Nat.le_trans hh hx.size) (Hsi.out j hlt)).mono ?_
      rintro e w1 ⟨v1, g1', rfl, hx1, hg1', hown'⟩
      obtain ⟨g1, hg1, hg2, hown⟩ : ∃ g, wr.heap.size ≤ g ∧ (0 < (setAt l j).length → g < w1.heap.size) ∧ Own w1 g 2 v1 (setAt l j).length (spanCell (setAt l j)) := by
        by_cases h0 : 0 < (setAt l j).length
        · exact ⟨g1', hg1' h0, fun _ => hown'.lt h0, hown'⟩
        · exact ⟨wr.heap.size, Nat.le_refl _, fun hh => absurd hh h0, hown'.any h0 _⟩
      clear hg1' hown'
      have hc0 := (hbl.ext hx1).2 j (by omega)
      have hc0a := hc0.1
      have hc0b := hc0.2
      have Hbl := Lib.hid (hbl.ext hx1)
      have Hown := Lib.hid hown
      clear hbl hown
      have hbg := Hbl.out.1
      obtain ⟨A1, c1, hv1⟩ : ∃ A1 c1, v1 = .slice A1 (setAt l j).length c1 := by
        obtain ⟨_, A1, c1, e, _⟩ := Hown.out
        exact ⟨A1, c1, e⟩
      have Hown' : Own w1 g1 2 (.slice A1 (setAt l j).length c1) (setAt l j).length (spanCell (setAt l j)) := hv1 ▸ Hown.out
      have HownH := Lib.hid Hown'
      subst hv1
      clear Hown Hown'
      go_wp2_with fail
      go_roundg (l.length - (j + 1))
      case measure => omega
      case rel =>
        refine ⟨j + 1, _, fun i => if i = j then g1 else g i, by omega, by go_num, (by repeat (first | exact Ext.refl _ | assumption | refine Ext.alloc ?_ _ | refine Ext.drew ?_ | refine Ext.drewN ?_ _ | refine Ext.setCell ?_ (by first | (simp; done) | (simp; omega) | omega) _ | refine Ext.trans ?_ (by assumption))), (Hbl.out.set j (.slice A1 (setAt l j).length c1) (by omega)), ?_, ?_⟩
        · have hset : ∀ {b n : Nat} {v : Value} {f : Nat → Value}, Own w1 b 2 v n f → (0 < n → w.heap.size < b) → Own (w1.setCell ⟨w.heap.size, j, none⟩ (.slice A1 (setAt l j).length c1)) b 2 v n f := fun ho hb => ho.setOther (fun hn => by have := hb hn; simp; omega) _
          intro i hi
          have hsz : (w1.setCell ⟨w.heap.size, j, none⟩ (.slice A1 (setAt l j).length c1)).heap.size = w1.heap.size := by simp [World.setCell]
          rw [hsz]
          by_cases e : i = j
          · subst e
            simp only [if_true]
            exact ⟨hset HownH.out (fun _ => by omega), fun hn => ⟨by omega, hg2 hn⟩⟩
          · simp only [if_neg e]
            have ho := Hok.out i (by omega)
            have hsz1 := hx1.size
            exact ⟨hset (ho.1.ext hx1) (fun hn => (ho.2 hn).1), fun hn => ⟨(ho.2 hn).1, by have := (ho.2 hn).2; omega⟩⟩
        · intro i i' h1 h2 hne hn hn'
          show (if i = j then g1 else g i) ≠ (if i' = j then g1 else g i')
          by_cases e : i = j
          · have e' : ¬ i' = j := by omega
            rw [if_pos e, if_neg e']
            have := ((Hok.out i' (by omega)).2 hn').2
            omega
          · rw [if_neg e]
            by_cases e' : i' = j
            · rw [if_pos e']
              have := ((Hok.out i (by omega)).2 hn).2
              omega
            · rw [if_neg e']
              exact Hmo.out i i' (by omega) (by omega) hne hn hn'
    · obtain rfl : j = l.length := by omega
      have Hbl := Lib.hid hbl
      clear hbl
      go_wp2_with fail
      go_ret
      refine ⟨_, rfl, (by repeat (first | exact Ext.refl _ | assumption | refine Ext.alloc ?_ _ | refine Ext.drew ?_ | refine Ext.drewN ?_ _ | refine Ext.setCell ?_ (by first | (simp; done) | (simp; omega) | omega) _ | refine Ext.trans ?_ (by assumption))), w.heap.size, f, g, Hbl.out.own (Nat.le_refl _) (by unfold maxLen; omega) (Nat.le_refl _) (fun i _ => rfl), fun _ => ⟨Nat.le_refl _, hbgr⟩, fun i hi => ⟨(Hok.out i hi).1, fun hn => ?_⟩, Hmo.out⟩
      have ho := (Hok.out i hi).2 hn
      exact ⟨by omega, ho.2, by omega⟩

set_option maxHeartbeats 1000000 in
theorem laws_toNetwork (s k : Value) (n : Net) (w : World) (h : NetIn w s k n) (hsm : Small n) :
    Calls Tryd.prog 8 #[.agg #[s, k]] w (NewNet n w) := by
  obtain ⟨hi, hhi, hh⟩ : ∃ hi, hi = w.heap.size ∧ hi ≤ w.heap.size := ⟨_, rfl, Nat.le_refl _⟩
  obtain ⟨hs, hk⟩ := h
  rw [← hhi] at hs hk
  clear hhi
  have Hs := Lib.hid hs
  have Hk := Lib.hid hk
  have Hsm := Lib.hid hsm
  clear hs hk hsm
  go_enter Tryd.func8, Tryd.ntmps8
  go_wp2_with fail
  refine (laws_toSpanSS s n.sets hi _ (Hs.out.ext ((by repeat (first | exact Ext.refl _ | assumption | refine Ext.alloc ?_ _ | refine Ext.drew ?_ | refine Ext.drewN ?_ _ | refine Ext.setCell ?_ (by first | (simp; done) | (simp; omega) | omega) _ | refine Ext.trans ?_ (by assumption))) : Ext w _) hh) (by simp; omega) Hsm.out.1 Hsm.out.2.2).mono ?_
  rintro e w1 ⟨v1, rfl, hx1, ho1⟩
  have hb1 := (((Boxed.new w [s, k] 25).ext (((Ext.refl _).alloc _).alloc _)).ext hx1)
  have hb2 : Boxed w1 (w.heap.size + 1) [.slice none 0 0, .slice none 0 0] := by
    have := (((Boxed.new (w.alloc _) [.slice none 0 0, .slice none 0 0] 32).ext ((Ext.refl _).alloc _)).ext hx1)
    rwa [World.size_alloc] at this
  have hb3 : Boxed w1 (w.heap.size + 1 + 1) [.slice none 0 0, .slice none 0 0] := by
    have := (Boxed.new ((w.alloc _).alloc _) [.slice none 0 0, .slice none 0 0] 32).ext hx1
    rwa [World.size_alloc, World.size_alloc] at this
  obtain ⟨A1, c1, rfl⟩ : ∃ A c, v1 = .slice A n.sets.length c := ho1.len
  have hx : Ext w w1 := (by repeat (first | exact Ext.refl _ | assumption | refine Ext.alloc ?_ _ | refine Ext.drew ?_ | refine Ext.drewN ?_ _ | refine Ext.setCell ?_ (by first | (simp; done) | (simp; omega) | omega) _ | refine Ext.trans ?_ (by assumption)))
  have ho1' : OwnSets w1 (w.heap.size + 3) w1.heap.size (.slice A1 n.sets.length c1) n.sets := by
    simpa only [World.size_alloc] using ho1
  have h10 := hb1.at0
  have h11 := hb1.at1
  have h30 := hb3.at0
  have f30 := hb3.fz 0 (by simp)
  have hz1 := hb1.1
  have hz3 := hb3.1
  have Hb1 := Lib.hid hb1
  have Hb2 := Lib.hid hb2
  have Hb3 := Lib.hid hb3
  have Ho1 := Lib.hid ho1'
  clear hb1 hb2 hb3 ho1 ho1' hx1
  go_wp2_with fail
  have hxx : Ext w (w1.setCell ⟨w.heap.size + 1 + 1, 0, none⟩ (.slice A1 n.sets.length c1)) := hx.setCell (by simp; omega) _
  refine (laws_toLinkS k n.links 0 hi _ (Hk.out.ext hxx hh) (by have := hxx.size; omega) Hsm.out.2.1).mono ?_
  rintro e w2 ⟨v2, gk, rfl, hx2, hg1', ho2⟩
  have Hgk := Lib.hid hg1'
  clear hg1'
  have hb2' := (Hb2.out.setOther (p := ⟨w.heap.size + 1 + 1, 0, none⟩) (by simp) (.slice A1 n.sets.length c1)).ext hx2
  have hb3' : Boxed w2 (w.heap.size + 1 + 1) [.slice A1 n.sets.length c1, .slice none 0 0] := (Hb3.out.set 0 (.slice A1 n.sets.length c1) (by simp)).ext hx2
  have ho1' := (Ho1.out.setOther (p := ⟨w.heap.size + 1 + 1, 0, none⟩) (.inl (by simp)) (.slice A1 n.sets.length c1)).ext hx2
  obtain ⟨A2, c2, rfl⟩ : ∃ A c, v2 = .slice A n.links.length c := ho2.len
  have hz : (w1.setCell ⟨w.heap.size + 1 + 1, 0, none⟩ (.slice A1 n.sets.length c1)).heap.size = w1.heap.size := by simp [World.setCell]
  have hz2 := hx2.size
  rw [hz] at hz2
  have hgk : 0 < n.links.length → w1.heap.size ≤ gk := by rw [← hz]; exact Hgk.out
  have Hgk2 := Lib.hid hgk
  clear hgk Hgk
  have hx' : Ext w w2 := hxx.trans hx2
  clear hxx hx2 hx
  have h20 := hb2'.at0
  have f20 := hb2'.fz 0 (by simp)
  have h21 := hb2'.at1
  have f21 := hb2'.fz 1 (by simp)
  have h30 := hb3'.at0
  have f30 := hb3'.fz 0 (by simp)
  have h31 := hb3'.at1
  have f31 := hb3'.fz 1 (by simp)
  have Hz := Lib.hid hz
  have Hb2 := Lib.hid hb2'
  have Hb3 := Lib.hid hb3'
  have Ho1 := Lib.hid ho1'
  have Ho2 := Lib.hid ho2
  clear hb2' hb3' ho1' ho2 hz
  go_wp2_with fail
  refine bodyPost_ret (v := .agg #[.slice A1 n.sets.length c1, .slice A2 n.links.length c2]) (by simp [results, Tryd.results8, go_sem, *]) rfl ⟨_, _, rfl, ?_, ?_⟩
  · refine Ext.setCell (Ext.setCell (Ext.setCell hx' ?_ _) ?_ _) ?_ _ <;> (simp; try omega)
  · refine ⟨_, _, w.heap.size + 3, w1.heap.size, gk, rfl, by omega, ?_, ?_, ?_, ?_⟩
    · simp [World.setCell]; omega
    · exact ((Ho1.out.setOther (.inl (by simp <;> omega)) _).setOther (.inl (by simp <;> omega)) _).setOther (.inl (by simp <;> omega)) _
    · exact ((Ho2.out.setOther (fun hn => by have := Hgk2.out hn; simp <;> omega) _).setOther (fun hn => by have := Hgk2.out hn; simp <;> omega) _).setOther (fun hn => by have := Hgk2.out hn; simp <;> omega) _
    · intro hn
      have h1 := Hgk2.out hn
      have h2 := Ho2.out.lt hn
      simp [World.setCell]
      omega

set_option maxHeartbeats 400000 in
theorem laws_eqSpan (a b : Int) (w : World) : Calls Tryd.prog 45 #[.agg #[.int .i64 a, .int .i64 b], .agg #[.int .i64 a, .int .i64 b]] w (RetX (.bool true) w) := by
  go_enter Tryd.func45, Tryd.ntmps45
  go_wp2_with fail
  go_ret
  exact ⟨rfl, (by repeat (first | exact Ext.refl _ | assumption | refine Ext.alloc ?_ _ | refine Ext.drew ?_ | refine Ext.drewN ?_ _ | refine Ext.setCell ?_ (by first | (simp; done) | (simp; omega) | omega) _ | refine Ext.trans ?_ (by assumption)))⟩

set_option maxHeartbeats 400000 in
theorem laws_eqLink (a b c d : Int) (w : World) : Calls Tryd.prog 64 #[.agg #[.int .i64 a, .int .i64 b, .int .i64 c, .int .i64 d], .agg #[.int .i64 a, .int .i64 b, .int .i64 c, .int .i64 d]] w (RetX (.bool true) w) := by
  go_enter Tryd.func64, Tryd.ntmps64
  go_wp2_with fail
  go_ret
  exact ⟨rfl, (by repeat (first | exact Ext.refl _ | assumption | refine Ext.alloc ?_ _ | refine Ext.drew ?_ | refine Ext.drewN ?_ _ | refine Ext.setCell ?_ (by first | (simp; done) | (simp; omega) | omega) _ | refine Ext.trans ?_ (by assumption)))⟩

set_option maxHeartbeats 1000000 in
theorem laws_eqSpanS (v v' : Value) (l : List Sp) (w : World) (h : Spans w 0 w.heap.size v l) (h' : Spans w 0 w.heap.size v' l) :
    Calls Tryd.prog 15 #[v, v'] w (RetX (.bool true) w) := by
  obtain ⟨A, c, rfl, hn, hc⟩ := h.len
  obtain ⟨A', c', rfl, _, hc'⟩ := h'.len
  have H := Lib.hid h
  have H' := Lib.hid h'
  clear h h'
  go_enter Tryd.func15, Tryd.ntmps15
  go_wp2_with fail
  go_loopg [5] l.length (fun k i wr => ∃ j : Nat, j + k = l.length ∧ i = .int .i64 j ∧ Ext w wr)
  case atStart => exact ⟨0, by omega, rfl, (by repeat (first | exact Ext.refl _ | assumption | refine Ext.alloc ?_ _ | refine Ext.drew ?_ | refine Ext.drewN ?_ _ | refine Ext.setCell ?_ (by first | (simp; done) | (simp; omega) | omega) _ | refine Ext.trans ?_ (by assumption)))⟩
  case round =>
    obtain ⟨j, hj, rfl, hx⟩ := hrel
    by_cases hlt : j < l.length
    · obtain ⟨b, off, rfl, _, hb, h1, h2⟩ := (H.out.ext hx (Nat.le_refl _)).at_ hlt
      obtain ⟨b', off', rfl, _, hb', h1', h2'⟩ := (H'.out.ext hx (Nat.le_refl _)).at_ hlt
      have hbr : b < wr.heap.size := Nat.lt_of_lt_of_le hb hx.size
      have hbr' : b' < wr.heap.size := Nat.lt_of_lt_of_le hb' hx.size
      go_wp2_with fail
      (refine wp_region_onto prog_mixed (by kernel_rfl) ?_; (repeat (go_big_quiet_step ((go_at_call 45; exact onto_callX (laws_eqSpan _ _ _))))); refine onto_end ?_; intro w1 hx1)
      go_wp2_with fail
      go_roundg (l.length - (j + 1))
      case measure => omega
      case rel => exact ⟨j + 1, by omega, by go_num, (by repeat (first | exact Ext.refl _ | assumption | refine Ext.alloc ?_ _ | refine Ext.drew ?_ | refine Ext.drewN ?_ _ | refine Ext.setCell ?_ (by first | (simp; done) | (simp; omega) | omega) _ | refine Ext.trans ?_ (by assumption)))⟩
    · obtain rfl : j = l.length := by omega
      go_wp2_with fail
      go_ret
      exact ⟨rfl, (by repeat (first | exact Ext.refl _ | assumption | refine Ext.alloc ?_ _ | refine Ext.drew ?_ | refine Ext.drewN ?_ _ | refine Ext.setCell ?_ (by first | (simp; done) | (simp; omega) | omega) _ | refine Ext.trans ?_ (by assumption)))⟩

set_option maxHeartbeats 1000000 in
theorem laws_eqLinkS (v v' : Value) (l : List Lk) (w : World) (h : Links w 0 w.heap.size v l) (h' : Links w 0 w.heap.size v' l) :
    Calls Tryd.prog 38 #[v, v'] w (RetX (.bool true) w) := by
  obtain ⟨A, c, rfl, hn, hc⟩ := h.len
  obtain ⟨A', c', rfl, _, hc'⟩ := h'.len
  have H := Lib.hid h
  have H' := Lib.hid h'
  clear h h'
  go_enter Tryd.func38, Tryd.ntmps38
  go_wp2_with fail
  go_loopg [5] l.length (fun k i wr => ∃ j : Nat, j + k = l.length ∧ i = .int .i64 j ∧ Ext w wr)
  case atStart => exact ⟨0, by omega, rfl, (by repeat (first | exact Ext.refl _ | assumption | refine Ext.alloc ?_ _ | refine Ext.drew ?_ | refine Ext.drewN ?_ _ | refine Ext.setCell ?_ (by first | (simp; done) | (simp; omega) | omega) _ | refine Ext.trans ?_ (by assumption)))⟩
  case round =>
    obtain ⟨j, hj, rfl, hx⟩ := hrel
    by_cases hlt : j < l.length
    · obtain ⟨b, off, rfl, _, hb, h1, h2, h3, h4⟩ := (H.out.ext hx (Nat.le_refl _)).at_ hlt
      obtain ⟨b', off', rfl, _, hb', h1', h2', h3', h4'⟩ := (H'.out.ext hx (Nat.le_refl _)).at_ hlt
      have hbr : b < wr.heap.size := Nat.lt_of_lt_of_le hb hx.size
      have hbr' : b' < wr.heap.size := Nat.lt_of_lt_of_le hb' hx.size
      go_wp2_with fail
      (refine wp_region_onto prog_mixed (by kernel_rfl) ?_; (repeat (go_big_quiet_step ((go_at_call 64; exact onto_callX (laws_eqLink _ _ _ _ _))))); refine onto_end ?_; intro w1 hx1)
      go_wp2_with fail
      go_roundg (l.length - (j + 1))
      case measure => omega
      case rel => exact ⟨j + 1, by omega, by go_num, (by repeat (first | exact Ext.refl _ | assumption | refine Ext.alloc ?_ _ | refine Ext.drew ?_ | refine Ext.drewN ?_ _ | refine Ext.setCell ?_ (by first | (simp; done) | (simp; omega) | omega) _ | refine Ext.trans ?_ (by assumption)))⟩
    · obtain rfl : j = l.length := by omega
      go_wp2_with fail
      go_ret
      exact ⟨rfl, (by repeat (first | exact Ext.refl _ | assumption | refine Ext.alloc ?_ _ | refine Ext.drew ?_ | refine Ext.drewN ?_ _ | refine Ext.setCell ?_ (by first | (simp; done) | (simp; omega) | omega) _ | refine Ext.trans ?_ (by assumption)))⟩


set_option maxHeartbeats 1000000 in
theorem laws_eqSpanSS (v v' : Value) (l : List (List Sp)) (w : World) (h : Sets w 0 w.heap.size v l) (h' : Sets w 0 w.heap.size v' l) :
    Calls Tryd.prog 37 #[v, v'] w (RetX (.bool true) w) := by
  obtain ⟨A, c, rfl, hn, hc⟩ := h.len
  obtain ⟨A', c', rfl, _, hc'⟩ := h'.len
  have H := Lib.hid h
  have H' := Lib.hid h'
  clear h h'
  go_enter Tryd.func37, Tryd.ntmps37
  go_wp2_with fail
  go_loopg [5] l.length (fun k i wr => ∃ j : Nat, j + k = l.length ∧ i = .int .i64 j ∧ Ext w wr)
  case atStart => exact ⟨0, by omega, rfl, (by repeat (first | exact Ext.refl _ | assumption | refine Ext.alloc ?_ _ | refine Ext.drew ?_ | refine Ext.drewN ?_ _ | refine Ext.setCell ?_ (by first | (simp; done) | (simp; omega) | omega) _ | refine Ext.trans ?_ (by assumption)))⟩
  case round =>
    obtain ⟨j, hj, rfl, hx⟩ := hrel
    by_cases hlt : j < l.length
    · obtain ⟨b, off, u, rfl, _, hb, h1, hu⟩ := (H.out.ext hx (Nat.le_refl _)).at_ hlt
      obtain ⟨b', off', u', rfl, _, hb', h1', hu'⟩ := (H'.out.ext hx (Nat.le_refl _)).at_ hlt
      have hbr : b < wr.heap.size := Nat.lt_of_lt_of_le hb hx.size
      have hbr' : b' < wr.heap.size := Nat.lt_of_lt_of_le hb' hx.size
      have Hu := Lib.hid (hu.mono (Nat.le_refl 0) hx.size)
      have Hu' := Lib.hid (hu'.mono (Nat.le_refl 0) hx.size)
      clear hu hu'
      go_wp2_with fail
      (refine wp_region_onto prog_mixed (by kernel_rfl) ?_; (repeat (go_big_quiet_step ((go_at_call 15; exact onto_callX (laws_eqSpanS _ _ (setAt l j) _ ((Hu.out.ext (onto_ext _ _) (Nat.le_refl _)).mono (Nat.le_refl _) (onto_ext _ _).size) ((Hu'.out.ext (onto_ext _ _) (Nat.le_refl _)).mono (Nat.le_refl _) (onto_ext _ _).size)))))); refine onto_end ?_; intro w1 hx1)
      go_wp2_with fail
      go_roundg (l.length - (j + 1))
      case measure => omega
      case rel => exact ⟨j + 1, by omega, by go_num, (by repeat (first | exact Ext.refl _ | assumption | refine Ext.alloc ?_ _ | refine Ext.drew ?_ | refine Ext.drewN ?_ _ | refine Ext.setCell ?_ (by first | (simp; done) | (simp; omega) | omega) _ | refine Ext.trans ?_ (by assumption)))⟩
    · obtain rfl : j = l.length := by omega
      go_wp2_with fail
      go_ret
      exact ⟨rfl, (by repeat (first | exact Ext.refl _ | assumption | refine Ext.alloc ?_ _ | refine Ext.drew ?_ | refine Ext.drewN ?_ _ | refine Ext.setCell ?_ (by first | (simp; done) | (simp; omega) | omega) _ | refine Ext.trans ?_ (by assumption)))⟩

set_option maxHeartbeats 400000 in
theorem laws_eqNetwork (s k s' k' : Value) (n : Net) (w : World) (h : NetIn w s k n) (h' : NetIn w s' k' n) :
    Calls Tryd.prog 10 #[.agg #[s, k], .agg #[s', k']] w (RetX (.bool true) w) := by
  obtain ⟨hs, hk⟩ := h
  obtain ⟨hs', hk'⟩ := h'
  have Hs := Lib.hid hs
  have Hk := Lib.hid hk
  have Hs' := Lib.hid hs'
  have Hk' := Lib.hid hk'
  clear hs hk hs' hk'
  go_enter Tryd.func10, Tryd.ntmps10
  go_wp2_with fail
  refine (laws_eqSpanSS s s' n.sets _ ((Hs.out.ext ((by repeat (first | exact Ext.refl _ | assumption | refine Ext.alloc ?_ _ | refine Ext.drew ?_ | refine Ext.drewN ?_ _ | refine Ext.setCell ?_ (by first | (simp; done) | (simp; omega) | omega) _ | refine Ext.trans ?_ (by assumption))) : Ext w _) (Nat.le_refl _)).mono (Nat.le_refl _) (by simp; omega)) ((Hs'.out.ext ((by repeat (first | exact Ext.refl _ | assumption | refine Ext.alloc ?_ _ | refine Ext.drew ?_ | refine Ext.drewN ?_ _ | refine Ext.setCell ?_ (by first | (simp; done) | (simp; omega) | omega) _ | refine Ext.trans ?_ (by assumption))) : Ext w _) (Nat.le_refl _)).mono (Nat.le_refl _) (by simp; omega))).mono ?_
  rintro e w1 ⟨rfl, hx1⟩
  have hb1 := ((Boxed.new w [s, k] 32).ext ((Ext.refl _).alloc _)).ext hx1
  have hb2 : Boxed w1 (w.heap.size + 1) [s', k'] := by
    have := (Boxed.new (w.alloc _) [s', k'] 32).ext hx1
    rwa [World.size_alloc] at this
  have hx : Ext w w1 := (by repeat (first | exact Ext.refl _ | assumption | refine Ext.alloc ?_ _ | refine Ext.drew ?_ | refine Ext.drewN ?_ _ | refine Ext.setCell ?_ (by first | (simp; done) | (simp; omega) | omega) _ | refine Ext.trans ?_ (by assumption)))
  have h11 := hb1.at1
  have h21 := hb2.at1
  have hz1 := hb1.1
  have hz2 := hb2.1
  clear hb1 hb2 hx1
  go_wp2_with fail
  refine (laws_eqLinkS k k' n.links _ ((Hk.out.ext hx (Nat.le_refl _)).mono (Nat.le_refl _) hx.size) ((Hk'.out.ext hx (Nat.le_refl _)).mono (Nat.le_refl _) hx.size)).mono ?_
  rintro e w2 ⟨rfl, hx2⟩
  go_wp2_with fail
  go_ret
  exact ⟨rfl, (by repeat (first | exact Ext.refl _ | assumption | refine Ext.alloc ?_ _ | refine Ext.drew ?_ | refine Ext.drewN ?_ _ | refine Ext.setCell ?_ (by first | (simp; done) | (simp; omega) | omega) _ | refine Ext.trans ?_ (by assumption)))⟩
end Go.Proofs.YtfmnkojjkjkdeaaDoor
