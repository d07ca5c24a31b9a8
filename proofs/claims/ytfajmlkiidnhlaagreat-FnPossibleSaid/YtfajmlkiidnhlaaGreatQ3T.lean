/- Contracts: slices.Clone; copies of networks. -/
import Derived.Test.YtfajmlkiidnhlaaGreatQ3S
import Derived.Test.YtfajmlkiidnhlaaGreatQ3E
import Derived.Deep.RegionHeld3
import Derived.Deep.RegionLaw
namespace Go.Proofs.YtfajmlkiidnhlaaGreat
set_option linter.unusedVariables false
set_option linter.unusedSimpArgs false
open Go.RowKit
attribute [local go_sem] cell_onto

set_option maxHeartbeats 1000000 in
theorem slices_Clone_spans (v : Value) (l : List Sp) (w : World) (h : Spans w 0 w.heap.size v l) (hsm : l.length ≤ 1048576) :
    Calls Tryz.prog 121 #[v] w (NewOwn 89 2 l.length (spanCell l) w) := by
  obtain ⟨A, c, rfl, hn, hc⟩ := h.len
  have H := Lib.hid h
  clear h
  have q := fun (w : World) (a : Option Addr) (n c n' c' : Nat) => Lib.run_eql_slice_nil (P := Tryz.prog) w 41 89 a n c n' c' Tryz.underlying41
  cases A with
  | none =>
    have h0 : l.length = 0 := by
      obtain ⟨_, A', c', e, _, hr⟩ := H.out
      rcases Nat.eq_zero_or_pos l.length with h0 | h0
      · exact h0
      · obtain ⟨b, off, hA, _⟩ := hr h0
        rw [hA] at e
        cases e
    have H0 := Lib.hid h0
    clear h0
    go_enter Tryz.func121, Tryz.ntmps121
    go_wp2_with fail
    go_ret
    refine ⟨_, rfl, (by repeat (first | exact Ext.refl _ | assumption | refine Ext.alloc ?_ _ | refine Ext.drew ?_ | refine Ext.drewN ?_ _ | refine Ext.setCell ?_ (by first | (simp; done) | (simp; omega) | omega) _ | refine Ext.trans ?_ (by assumption))), ?_⟩
    rw [H0.out]
    simpa [cellsOf] using nil_row w w.heap.size 89 2
  | some a =>
    go_enter Tryz.func121, Tryz.ntmps121
    go_wp2_with (at_builtin; refine wpList_append_row _ rfl _ _ 41 rfl w.heap.size 89 2 16 Tryz.underlying41 (by kernel_rfl) (by omega) _ 0 l.length [] rfl (.inl (World.ownsRow_made w #[] 0 (Nat.le_refl _) (Nat.zero_le _) rfl)) (.inl (World.ownsRow_made w #[] 0 (Nat.le_refl _) (Nat.zero_le _) rfl)) 0 w.heap.size _ (spanCell l) rfl (H.out.ext ((Ext.refl w).alloc _) (Nat.le_refl _)) (fun i _ => spanCell_one l i) (by unfold maxLen; omega) (by omega) (by simp) ?_; intro v' w1 hown hput)
    have Hown := Lib.hid hown
    have Hx := Lib.hid (hput.ext ((Ext.refl w).alloc (.cells #[] 89)) (Nat.le_refl _))
    clear hown hput
    go_wp2_with fail
    go_ret
    refine ⟨_, rfl, Hx.out, ?_⟩
    have h2 := Hown.out
    simp only [Nat.zero_add, List.nil_append] at h2
    exact h2

set_option maxHeartbeats 1000000 in
theorem slices_Clone_links (v : Value) (l : List Lk) (w : World) (h : Links w 0 w.heap.size v l) (hsm : l.length ≤ 1048576) :
    Calls Tryz.prog 120 #[v] w (NewOwn 98 4 l.length (linkCell l) w) := by
  obtain ⟨A, c, rfl, hn, hc⟩ := h.len
  have H := Lib.hid h
  clear h
  have q := fun (w : World) (a : Option Addr) (n c n' c' : Nat) => Lib.run_eql_slice_nil (P := Tryz.prog) w 25 98 a n c n' c' Tryz.underlying25
  cases A with
  | none =>
    have h0 : l.length = 0 := by
      obtain ⟨_, A', c', e, _, hr⟩ := H.out
      rcases Nat.eq_zero_or_pos l.length with h0 | h0
      · exact h0
      · obtain ⟨b, off, hA, _⟩ := hr h0
        rw [hA] at e
        cases e
    have H0 := Lib.hid h0
    clear h0
    go_enter Tryz.func120, Tryz.ntmps120
    go_wp2_with fail
    go_ret
    refine ⟨_, rfl, (by repeat (first | exact Ext.refl _ | assumption | refine Ext.alloc ?_ _ | refine Ext.drew ?_ | refine Ext.drewN ?_ _ | refine Ext.setCell ?_ (by first | (simp; done) | (simp; omega) | omega) _ | refine Ext.trans ?_ (by assumption))), ?_⟩
    rw [H0.out]
    simpa [cellsOf] using nil_row w w.heap.size 98 4
  | some a =>
    go_enter Tryz.func120, Tryz.ntmps120
    go_wp2_with (at_builtin; refine wpList_append_row _ rfl _ _ 25 rfl w.heap.size 98 4 32 Tryz.underlying25 (by kernel_rfl) (by omega) _ 0 l.length [] rfl (.inl (World.ownsRow_made w #[] 0 (Nat.le_refl _) (Nat.zero_le _) rfl)) (.inl (World.ownsRow_made w #[] 0 (Nat.le_refl _) (Nat.zero_le _) rfl)) 0 w.heap.size _ (linkCell l) rfl (H.out.ext ((Ext.refl w).alloc _) (Nat.le_refl _)) (fun i _ => linkCell_one l i) (by unfold maxLen; omega) (by omega) (by simp) ?_; intro v' w1 hown hput)
    have Hown := Lib.hid hown
    have Hx := Lib.hid (hput.ext ((Ext.refl w).alloc (.cells #[] 98)) (Nat.le_refl _))
    clear hown hput
    go_wp2_with fail
    go_ret
    refine ⟨_, rfl, Hx.out, ?_⟩
    have h2 := Hown.out
    simp only [Nat.zero_add, List.nil_append] at h2
    exact h2

set_option maxHeartbeats 1000000 in
theorem slices_Clone_ints (v : Value) (l : List Int) (w : World) (h : Ints w 0 w.heap.size v l) (hsm : l.length ≤ 1048576) :
    Calls Tryz.prog 97 #[v] w (NewOwn 2 1 l.length (intCell l) w) := by
  obtain ⟨A, c, rfl, hn, hc⟩ := h.len
  have H := Lib.hid h
  clear h
  have q := fun (w : World) (a : Option Addr) (n c n' c' : Nat) => Lib.run_eql_slice_nil (P := Tryz.prog) w 31 2 a n c n' c' Tryz.underlying31
  cases A with
  | none =>
    have h0 : l.length = 0 := by
      obtain ⟨_, A', c', e, _, hr⟩ := H.out
      rcases Nat.eq_zero_or_pos l.length with h0 | h0
      · exact h0
      · obtain ⟨b, off, hA, _⟩ := hr h0
        rw [hA] at e
        cases e
    have H0 := Lib.hid h0
    clear h0
    go_enter Tryz.func97, Tryz.ntmps97
    go_wp2_with fail
    go_ret
    refine ⟨_, rfl, (by repeat (first | exact Ext.refl _ | assumption | refine Ext.alloc ?_ _ | refine Ext.drew ?_ | refine Ext.drewN ?_ _ | refine Ext.setCell ?_ (by first | (simp; done) | (simp; omega) | omega) _ | refine Ext.trans ?_ (by assumption))), ?_⟩
    rw [H0.out]
    simpa [cellsOf] using nil_row w w.heap.size 2 1
  | some a =>
    go_enter Tryz.func97, Tryz.ntmps97
    go_wp2_with (at_builtin; refine wpList_append_row _ rfl _ _ 31 rfl w.heap.size 2 1 8 Tryz.underlying31 (by kernel_rfl) (by omega) _ 0 l.length [] rfl (.inl (World.ownsRow_made w #[] 0 (Nat.le_refl _) (Nat.zero_le _) rfl)) (.inl (World.ownsRow_made w #[] 0 (Nat.le_refl _) (Nat.zero_le _) rfl)) 0 w.heap.size _ (intCell l) rfl (H.out.ext ((Ext.refl w).alloc _) (Nat.le_refl _)) (fun i _ => intCell_one l i) (by unfold maxLen; omega) (by omega) (by simp) ?_; intro v' w1 hown hput)
    have Hown := Lib.hid hown
    have Hx := Lib.hid (hput.ext ((Ext.refl w).alloc (.cells #[] 2)) (Nat.le_refl _))
    clear hown hput
    go_wp2_with fail
    go_ret
    refine ⟨_, rfl, Hx.out, ?_⟩
    have h2 := Hown.out
    simp only [Nat.zero_add, List.nil_append] at h2
    exact h2

theorem ownsRow_len {w : World} {b : Nat} {e : TypeId} {sz n : Nat} {v : Value} {xs : List Value} (h : w.ownsRow b e sz v n xs) : ∃ A c, v = .slice A n c := by
  rcases h.2 with ⟨rfl, rfl⟩ | ⟨g, cap, cur, rfl, _⟩
  · exact ⟨_, _, rfl⟩
  · exact ⟨_, _, rfl⟩
theorem Boxed.keep0 {w : World} {g : Nat} {a : Value} {cs : List Value} (h : Boxed w g (a :: cs)) : w.cell? ⟨g, 0, none⟩ = some a ∧ w.frozen? ⟨g, 0, none⟩ = false := ⟨h.at0, h.fz 0 (by simp)⟩
set_option maxRecDepth 100000 in
set_option maxHeartbeats 4000000 in
theorem impl_ownNetwork (s k : Value) (n : Net) (w : World) (h : NetIn w s k n) (hsm : Small n) : Calls Tryz.prog 65 #[.agg #[s, k]] w (NewNetL 98 n w) := by
  obtain ⟨As, cs, rfl, hns, hcs⟩ := h.1.len
  obtain ⟨Ak, ck, rfl, hnk, hck⟩ := h.2.len
  have H := Lib.hid h
  obtain ⟨hsm1, hsm2, hsm3⟩ := hsm
  have Hsm3 := Lib.hid hsm3
  clear h hsm3
  go_enter Tryz.func65, Tryz.ntmps65
  go_wp2_with fail
  refine Calls.mono (slices_Clone_links _ n.links _ (H.out.up (by repeat (first | exact Ext.refl _ | assumption | refine Ext.alloc ?_ _ | refine Ext.drew ?_ | refine Ext.drewN ?_ _ | refine Ext.setCell ?_ (by first | (simp; done) | (simp; omega) | omega) _ | refine Ext.trans ?_ (by assumption)))).2 hsm2) ?_
  rintro e w1 ⟨kv, rfl, hx1, hk1⟩
  obtain ⟨Av, cv, rfl⟩ := ownsRow_len hk1
  have Hk1 := Lib.hid hk1
  have hxw1 : Ext w w1 := (by repeat (first | exact Ext.refl _ | assumption | refine Ext.alloc ?_ _ | refine Ext.drew ?_ | refine Ext.drewN ?_ _ | refine Ext.setCell ?_ (by first | (simp; done) | (simp; omega) | omega) _ | refine Ext.trans ?_ (by assumption)))
  have h8 : w.heap.size + 1 < w1.heap.size := by have := hx1.size; simp at this; omega
  have hb := (Boxed.new w [.slice As n.sets.length cs, .slice Ak n.links.length ck] 27).ext (((Ext.refl _).alloc _).trans hx1); have hb0 := hb.at0; have hb1 := hb.at1; have hbg := hb.1; have Hhb := Lib.hid hb; clear hb
  have Hrb : Hid (Boxed w1 (w.heap.size + 1) [.slice none 0 0, .slice none 0 0]) := by
    have := (Boxed.new (w.alloc (.cells #[.slice As n.sets.length cs, .slice Ak n.links.length ck] 27)) [.slice none 0 0, .slice none 0 0] 27).ext hx1
    rw [World.size_alloc] at this
    exact this
  clear hk1 hx1
  go_wp2_with fail
  go_loopg [5, 13] n.sets.length (fun q u i wr => ∃ (j : Nat) (sv : Value), j + q = n.sets.length ∧ i = .int .i64 j ∧ OwnSt 98 41 w w1.heap.size (.slice As n.sets.length cs) (.slice Ak n.links.length ck) (.slice Av n.links.length cv) n (n.sets.take j) sv wr)
  case atStart =>
    refine ⟨0, _, by omega, rfl, (by repeat (first | exact Ext.refl _ | assumption | refine Ext.alloc ?_ _ | refine Ext.drew ?_ | refine Ext.drewN ?_ _ | refine Ext.setCell ?_ (by first | (simp; done) | (simp; omega) | omega) _ | refine Ext.trans ?_ (by assumption))), Hhb.out.ext (by repeat (first | exact Ext.refl _ | assumption | refine Ext.alloc ?_ _ | refine Ext.drew ?_ | refine Ext.drewN ?_ _ | refine Ext.setCell ?_ (by first | (simp; done) | (simp; omega) | omega) _ | refine Ext.trans ?_ (by assumption))), Hrb.out.ext (by repeat (first | exact Ext.refl _ | assumption | refine Ext.alloc ?_ _ | refine Ext.drew ?_ | refine Ext.drewN ?_ _ | refine Ext.setCell ?_ (by first | (simp; done) | (simp; omega) | omega) _ | refine Ext.trans ?_ (by assumption))), Boxed.new w1 [.slice none 0 0, .slice Av n.links.length cv] 27, by omega, ?_, fun g hg => (Hk1.out.lt g hg).2, SetsBy.nil _ _ _⟩
    exact row_ext (ownsRow_mono Hk1.out (by simp)) (by repeat (first | exact Ext.refl _ | assumption | refine Ext.alloc ?_ _ | refine Ext.drew ?_ | refine Ext.drewN ?_ _ | refine Ext.setCell ?_ (by first | (simp; done) | (simp; omega) | omega) _ | refine Ext.trans ?_ (by assumption)))
  clear hb0 hb1 hbg Hhb Hrb Hk1
  case round =>
    obtain ⟨j, sv, hj, rfl, hx, hbb, hrb, hob, hgo, hk, hkg, f, hsf⟩ := hrel
    have hb := hbb; have hb0 := hb.at0; have hb1 := hb.at1; have hbg := hb.1; have Hhb := Lib.hid hb; clear hb
    have rb := hrb; have rb0 := rb.at0; have rb1 := rb.at1; have rbg := rb.1; have Hrb := Lib.hid rb; clear rb
    have Hk := Lib.hid hk
    have Hkg := Lib.hid hkg
    have Hsf := Lib.hid hsf
    have ho0 := hob.at0
    have ho1 := hob.at1
    have ho0f := hob.fz 0 (by simp)
    have hrf0 := Hrb.out.fz 0 (by simp)
    have hrf1 := Hrb.out.fz 1 (by simp)
    have hz := hob.1
    have Hob := Lib.hid hob
    clear hbb hrb hob hk hkg hsf
    have hlt0 : (n.sets.take j).length ≤ 1048576 := by rw [List.length_take]; omega
    by_cases hlt : j < n.sets.length
    · obtain ⟨b, off, u, rfl, _, hb, h1, h2⟩ := (H.out.1.ext hx (Nat.le_refl _)).at_ hlt
      have H2 := Lib.hid h2
      have hsj := Hsm3.out j hlt
      clear h2 rb0 rb1 rbg hrf0 hrf1 ho1
      have hwr := hx.size
      go_wp2_with fail
      go_region_law (first
          | (refine step_append_row rfl (.tmp 18) (.tmp 21) 24 rfl (w1.heap.size + 1) 41 1 24 Tryz.underlying24 (by kernel_rfl) (by omega) sv (n.sets.take j).length 1 _ rfl (Hsf.out.ext (by repeat (first | exact Ext.refl _ | assumption | refine Ext.alloc ?_ _ | refine Ext.drew ?_ | refine Ext.drewN ?_ _ | refine Ext.setCell ?_ (by first | (simp; done) | (simp; omega) | omega) _ | refine Ext.trans ?_ (by assumption)))).1 (.inr (by omega)) 0 _ _ (fun _ => .slice Au (setAt n.sets j).length cu) rfl ((Boxed.new w2 [.slice Au (setAt n.sets j).length cu] 41).row1) (fun _ _ => rfl) (by unfold maxLen; omega) (by omega) (by have := hx2.size; simp at this ⊢; omega) ?_; intro v3 w3 hown3 hput3; obtain ⟨Av3, cv3, rfl⟩ := ownsRow_len hown3; have hob3 : Boxed w3 w1.heap.size [sv, .slice Av n.links.length cv] := Boxed.off (Hob.out.ext (by repeat (first | exact Ext.refl _ | assumption | refine Ext.alloc ?_ _ | refine Ext.drew ?_ | refine Ext.drewN ?_ _ | refine Ext.setCell ?_ (by first | (simp; done) | (simp; omega) | omega) _ | refine Ext.trans ?_ (by assumption)))) hput3.1 (fun hh => by have := hh.1; omega); have ho3 := hob3.at0; have ho3f := hob3.fz 0 (by simp); clear hob3)
          | (go_simp; go_at_call 121; refine Calls.mono (slices_Clone_spans u (setAt n.sets j) _ (H2.out.upAt hwr (by repeat (first | exact Ext.refl _ | assumption | refine Ext.alloc ?_ _ | refine Ext.drew ?_ | refine Ext.drewN ?_ _ | refine Ext.setCell ?_ (by first | (simp; done) | (simp; omega) | omega) _ | refine Ext.trans ?_ (by assumption)))) hsj) ?_; rintro e w2 ⟨uv, rfl, hx2, hu⟩; obtain ⟨Au, cu, rfl⟩ := ownsRow_len hu; have ho2 := (Hob.out.ext (show Ext wr w2 from (by repeat (first | exact Ext.refl _ | assumption | refine Ext.alloc ?_ _ | refine Ext.drew ?_ | refine Ext.drewN ?_ _ | refine Ext.setCell ?_ (by first | (simp; done) | (simp; omega) | omega) _ | refine Ext.trans ?_ (by assumption))))).at0; have ho2a := (Hob.out.ext (show Ext wr (w2.alloc (.cells #[.slice Au (setAt n.sets j).length cu] 41)) from (by repeat (first | exact Ext.refl _ | assumption | refine Ext.alloc ?_ _ | refine Ext.drew ?_ | refine Ext.drewN ?_ _ | refine Ext.setCell ?_ (by first | (simp; done) | (simp; omega) | omega) _ | refine Ext.trans ?_ (by assumption))))).at0))
      all_goals
        have Hst := Lib.hid (OwnSt.push (s := setAt n.sets j) hx Hhb.out Hrb.out Hob.out hgo Hk.out Hkg.out Hsf.out (show Ext wr (w2.alloc (.cells #[.slice Au (setAt n.sets j).length cu] 41)) from (by repeat (first | exact Ext.refl _ | assumption | refine Ext.alloc ?_ _ | refine Ext.drew ?_ | refine Ext.drewN ?_ _ | refine Ext.setCell ?_ (by first | (simp; done) | (simp; omega) | omega) _ | refine Ext.trans ?_ (by assumption)))) (row_ext hu ((Ext.refl _).alloc _)) (Ext.size (by repeat (first | exact Ext.refl _ | assumption | refine Ext.alloc ?_ _ | refine Ext.drew ?_ | refine Ext.drewN ?_ _ | refine Ext.setCell ?_ (by first | (simp; done) | (simp; omega) | omega) _ | refine Ext.trans ?_ (by assumption)))) hput3 hown3)
        clear hown3 hput3 hu ho3 ho3f ho2 ho2a hb0 hb1 hbg ho0 ho0f
        go_wp2_with fail
        go_roundg (n.sets.length - (j + 1))
        case measure => omega
        case rel => exact ⟨j + 1, _, by omega, by go_num, by rw [take_push _ hlt]; have h9 := Hst.out; rw [List.length_take] at h9; exact h9⟩
    · obtain rfl : j = n.sets.length := by omega
      have Hst : Hid (OwnSt 98 41 w w1.heap.size (.slice As n.sets.length cs) (.slice Ak n.links.length ck) (.slice Av n.links.length cv) n n.sets sv wr) := Lib.hid ⟨hx, Hhb.out, Hrb.out, Hob.out, hgo, Hk.out, Hkg.out, f, by have := Hsf.out; rw [List.take_length] at this; exact this⟩
      obtain ⟨As2, cs2, rfl⟩ := Hsf.out.1.len
      go_wp2_with fail
      refine bodyPost_ret (v := .agg #[.slice As2 n.sets.length cs2, .slice Av n.links.length cv]) (by simp [results, Tryz.results65, go_sem, *]) rfl ?_
      have := Hst.out.done
      simpa using this

set_option maxRecDepth 100000 in
set_option maxHeartbeats 8000000 in
theorem spec_l18Own (s k : Value) (n : Net) (w : World) (h : NetIn w s k n) (hsm : Small n) : Calls Tryz.prog 85 #[.agg #[s, k]] w (NewNetL 98 n w) := by
  obtain ⟨As, cs, rfl, hns, hcs⟩ := h.1.len
  obtain ⟨Ak, ck, rfl, hnk, hck⟩ := h.2.len
  have H := Lib.hid h
  obtain ⟨hsm1, hsm2, hsm3⟩ := hsm
  have Hsm3 := Lib.hid hsm3
  clear h hsm3
  obtain ⟨w0, hw0⟩ : ∃ w0 : World, w0 = (((w.alloc (.cells #[.slice As n.sets.length cs, .slice Ak n.links.length ck] 27)).alloc (.cells #[.slice none 0 0, .slice none 0 0] 27)).alloc (.cells #[] 41)) := ⟨_, rfl⟩
  have hz0 : w0.heap.size = w.heap.size + 1 + 1 + 1 := by rw [hw0]; simp
  have Hx0 : Hid (Ext w w0) := Lib.hid (by rw [hw0]; exact (by repeat (first | exact Ext.refl _ | assumption | refine Ext.alloc ?_ _ | refine Ext.drew ?_ | refine Ext.drewN ?_ _ | refine Ext.setCell ?_ (by first | (simp; done) | (simp; omega) | omega) _ | refine Ext.trans ?_ (by assumption))))
  have Hbx : Hid (Boxed w0 w.heap.size [.slice As n.sets.length cs, .slice Ak n.links.length ck]) := Lib.hid (by rw [hw0]; exact (Boxed.new w [.slice As n.sets.length cs, .slice Ak n.links.length ck] 27).ext (by repeat (first | exact Ext.refl _ | assumption | refine Ext.alloc ?_ _ | refine Ext.drew ?_ | refine Ext.drewN ?_ _ | refine Ext.setCell ?_ (by first | (simp; done) | (simp; omega) | omega) _ | refine Ext.trans ?_ (by assumption))))
  have Hrb : Hid (Boxed w0 (w.heap.size + 1) [.slice none 0 0, .slice none 0 0]) := Lib.hid (by
    have := (Boxed.new (w.alloc (.cells #[.slice As n.sets.length cs, .slice Ak n.links.length ck] 27)) [.slice none 0 0, .slice none 0 0] 27).ext ((Ext.refl _).alloc (.cells #[] 41))
    rw [World.size_alloc] at this
    rw [hw0]
    exact this)
  have Hmk : Hid ((w0.alloc (.cells #[] 98)).ownsRow (w.heap.size + 2) 98 4 (.slice (some ⟨w.heap.size + 1 + 1 + 1, 0, none⟩) 0 0) 0 []) := Lib.hid (by
    have := World.ownsRow_made (base := w.heap.size + 2) (e := 98) (size := 4) w0 #[] 0 (by omega) (Nat.zero_le _) rfl
    rw [hz0] at this
    exact this)
  have Hw0 := Lib.hid hw0
  have Hz0 := Lib.hid hz0
  clear hw0 hz0
  go_enter Tryz.func85, Tryz.ntmps85
  go_wp2_with (at_builtin; rw [← Hw0.out]; refine wpList_append_row _ rfl _ _ 25 rfl (w.heap.size + 2) 98 4 32 Tryz.underlying25 (by kernel_rfl) (by omega) _ 0 n.links.length [] rfl (.inl Hmk.out) (.inl Hmk.out) 0 w.heap.size _ (linkCell n.links) rfl (H.out.2.ext (Hx0.out.alloc _) (Nat.le_refl _)) (fun i _ => linkCell_one n.links i) (by unfold maxLen; omega) (by omega) (by have := Hz0.out; simp; omega) ?_; intro kv w1 hk1 hput; obtain ⟨Av, cv, rfl⟩ := ownsRow_len hk1; simp only [Nat.zero_add, List.nil_append] at hk1; have Hk1 := Lib.hid hk1; have Hput := Lib.hid hput; clear hk1 hput)
  have hxw1 : Ext w w1 := Hput.out.ext (Hx0.out.alloc _) (by omega)
  have h8 : w.heap.size + 1 + 1 < w1.heap.size := by have h1 := Hput.out.size; have h2 := Hz0.out; simp at h1; omega
  have Hhb := Lib.hid ((Hbx.out.ext ((Ext.refl _).alloc (.cells #[] 98))).off Hput.out.1 (fun hh => by have := hh.1; omega))
  have Hrb1 := Lib.hid ((Hrb.out.ext ((Ext.refl _).alloc (.cells #[] 98))).off Hput.out.1 (fun hh => by have := hh.1; omega))
  clear Hbx Hrb Hput Hmk Hx0 Hw0 Hz0
  go_loopg [4] n.sets.length (fun q i wr => ∃ (j : Nat) (sv : Value), j + q = n.sets.length ∧ i = .int .i64 j ∧ OwnSt 98 41 w w1.heap.size (.slice As n.sets.length cs) (.slice Ak n.links.length ck) (.slice Av n.links.length cv) n (n.sets.take j) sv wr)
  case atStart =>
    refine ⟨0, .slice (some ⟨w.heap.size + 1 + 1, 0, none⟩) 0 0, by omega, rfl, (by repeat (first | exact Ext.refl _ | assumption | refine Ext.alloc ?_ _ | refine Ext.drew ?_ | refine Ext.drewN ?_ _ | refine Ext.setCell ?_ (by first | (simp; done) | (simp; omega) | omega) _ | refine Ext.trans ?_ (by assumption))), Hhb.out.ext (by repeat (first | exact Ext.refl _ | assumption | refine Ext.alloc ?_ _ | refine Ext.drew ?_ | refine Ext.drewN ?_ _ | refine Ext.setCell ?_ (by first | (simp; done) | (simp; omega) | omega) _ | refine Ext.trans ?_ (by assumption))), Hrb1.out.ext (by repeat (first | exact Ext.refl _ | assumption | refine Ext.alloc ?_ _ | refine Ext.drew ?_ | refine Ext.drewN ?_ _ | refine Ext.setCell ?_ (by first | (simp; done) | (simp; omega) | omega) _ | refine Ext.trans ?_ (by assumption))), Boxed.new w1 [.slice (some ⟨w.heap.size + 1 + 1, 0, none⟩) 0 0, .slice Av n.links.length cv] 27, by omega, ?_, fun g hg => (Hk1.out.lt g hg).2, SetsBy.of_empty (.inr ⟨rfl, rfl, ⟨_, rfl⟩, fun g hg => ?_⟩)⟩
    · exact row_ext Hk1.out (by repeat (first | exact Ext.refl _ | assumption | refine Ext.alloc ?_ _ | refine Ext.drew ?_ | refine Ext.drewN ?_ _ | refine Ext.setCell ?_ (by first | (simp; done) | (simp; omega) | omega) _ | refine Ext.trans ?_ (by assumption)))
    · simp [Value.ownBlock] at hg
      simp
      omega
  clear Hhb Hrb1 Hk1
  case round =>
    obtain ⟨j, sv, hj, rfl, hx, hbb, hrb, hob, hgo, hk, hkg, f, hsf⟩ := hrel
    have hb := hbb; have hb0 := hb.at0; have hb1 := hb.at1; have hbg := hb.1; have Hhb := Lib.hid hb; clear hb
    have rb := hrb; have rb0 := rb.at0; have rb1 := rb.at1; have rbg := rb.1; have Hrb := Lib.hid rb; clear rb
    have Hk := Lib.hid hk
    have Hkg := Lib.hid hkg
    have Hsf := Lib.hid hsf
    have ho0 := hob.at0
    have ho1 := hob.at1
    have ho0f := hob.fz 0 (by simp)
    have hrf0 := Hrb.out.fz 0 (by simp)
    have hrf1 := Hrb.out.fz 1 (by simp)
    have hz := hob.1
    have Hob := Lib.hid hob
    clear hbb hrb hob hk hkg hsf
    have hlt0 : (n.sets.take j).length ≤ 1048576 := by rw [List.length_take]; omega
    by_cases hlt : j < n.sets.length
    · obtain ⟨b, off, u, rfl, _, hb, h1, h2⟩ := (H.out.1.ext hx (Nat.le_refl _)).at_ hlt
      have H2 := Lib.hid h2
      have hsj := Hsm3.out j hlt
      clear h2 rb0 rb1 rbg hrf0 hrf1 ho1
      have hwr := hx.size
      have hjl : (j : Int) < (n.sets.length : Int) := by omega
      have hbr : b < wr.heap.size := by omega
      have h1a : (wr.alloc (.cells #[] 89)).cell? ⟨b, off + j, none⟩ = some u := (((Ext.refl wr).alloc (.cells #[] 89)).cell (p := ⟨b, off + j, none⟩) hbr).trans h1
      have hj0 : (0 : Int) ≤ (j : Int) := by omega
      go_wp2_with fail
      go_region_law (first
          | (refine step_append_row rfl (.tmp 20) (.tmp 25) 41 rfl wr.heap.size 89 2 16 Tryz.underlying41 (by kernel_rfl) (by omega) _ 0 (setAt n.sets j).length [] rfl (.inl (World.ownsRow_made wr.drew #[] 0 (Nat.le_refl _) (Nat.zero_le _) rfl)) (.inl (World.ownsRow_made wr.drew #[] 0 (Nat.le_refl _) (Nat.zero_le _) rfl)) 0 w.heap.size u (spanCell (setAt n.sets j)) rfl (H2.out.ext (by repeat (first | exact Ext.refl _ | assumption | refine Ext.alloc ?_ _ | refine Ext.drew ?_ | refine Ext.drewN ?_ _ | refine Ext.setCell ?_ (by first | (simp; done) | (simp; omega) | omega) _ | refine Ext.trans ?_ (by assumption))) hwr) (fun i _ => spanCell_one _ i) (by unfold maxLen; omega) (by omega) (by simp [World.drew]) ?_; intro uv w2 hu hput2; obtain ⟨Au, cu, rfl⟩ := ownsRow_len hu; simp only [Nat.zero_add, List.nil_append] at hu hput2; have hx2 : Ext wr w2 := hput2.ext (by repeat (first | exact Ext.refl _ | assumption | refine Ext.alloc ?_ _ | refine Ext.drew ?_ | refine Ext.drewN ?_ _ | refine Ext.setCell ?_ (by first | (simp; done) | (simp; omega) | omega) _ | refine Ext.trans ?_ (by assumption))) (Nat.le_refl _); have ho2 := (Hob.out.ext (show Ext wr w2 from hx2)).at0; have ho2a := (Hob.out.ext (show Ext wr (w2.alloc (.cells #[.slice Au (setAt n.sets j).length cu] 41)) from hx2.alloc _)).at0)
          | (refine step_append_row rfl (.tmp 19) (.tmp 27) 24 rfl (w1.heap.size + 1) 41 1 24 Tryz.underlying24 (by kernel_rfl) (by omega) sv (n.sets.take j).length 1 _ rfl (Hsf.out.ext (by repeat (first | exact Ext.refl _ | assumption | refine Ext.alloc ?_ _ | refine Ext.drew ?_ | refine Ext.drewN ?_ _ | refine Ext.setCell ?_ (by first | (simp; done) | (simp; omega) | omega) _ | refine Ext.trans ?_ (by assumption)))).1 (.inr (by omega)) 0 _ _ (fun _ => .slice Au (setAt n.sets j).length cu) rfl ((Boxed.new w2 [.slice Au (setAt n.sets j).length cu] 41).row1) (fun _ _ => rfl) (by unfold maxLen; omega) (by omega) (by have := hx2.size; simp at this ⊢; omega) ?_; intro v3 w3 hown3 hput3; obtain ⟨Av3, cv3, rfl⟩ := ownsRow_len hown3; have hob3 : Boxed w3 w1.heap.size [sv, .slice Av n.links.length cv] := Boxed.off (Hob.out.ext (by repeat (first | exact Ext.refl _ | assumption | refine Ext.alloc ?_ _ | refine Ext.drew ?_ | refine Ext.drewN ?_ _ | refine Ext.setCell ?_ (by first | (simp; done) | (simp; omega) | omega) _ | refine Ext.trans ?_ (by assumption)))) hput3.1 (fun hh => by have := hh.1; omega); have ho3 := hob3.at0; have ho3f := hob3.fz 0 (by simp); clear hob3))
      all_goals
        have Hst := Lib.hid (OwnSt.push (s := setAt n.sets j) hx Hhb.out Hrb.out Hob.out hgo Hk.out Hkg.out Hsf.out (show Ext wr (w2.alloc (.cells #[.slice Au (setAt n.sets j).length cu] 41)) from (by repeat (first | exact Ext.refl _ | assumption | refine Ext.alloc ?_ _ | refine Ext.drew ?_ | refine Ext.drewN ?_ _ | refine Ext.setCell ?_ (by first | (simp; done) | (simp; omega) | omega) _ | refine Ext.trans ?_ (by assumption)))) (row_ext hu ((Ext.refl _).alloc _)) (Nat.le_refl _) hput3 hown3)
        clear hown3 hput3 hu hput2 ho3 ho3f ho2 ho2a hb0 hb1 hbg ho0 ho0f
        go_wp2_with fail
        go_roundg (n.sets.length - (j + 1))
        case measure => omega
        case rel => exact ⟨j + 1, _, by omega, by go_num, by rw [take_push _ hlt]; have h9 := Hst.out; rw [List.length_take] at h9; exact h9⟩
    · obtain rfl : j = n.sets.length := by omega
      have Hst : Hid (OwnSt 98 41 w w1.heap.size (.slice As n.sets.length cs) (.slice Ak n.links.length ck) (.slice Av n.links.length cv) n n.sets sv wr) := Lib.hid ⟨hx, Hhb.out, Hrb.out, Hob.out, hgo, Hk.out, Hkg.out, f, by have := Hsf.out; rw [List.take_length] at this; exact this⟩
      obtain ⟨As2, cs2, rfl⟩ := Hsf.out.1.len
      go_wp2_with fail
      refine bodyPost_ret (v := .agg #[.slice As2 n.sets.length cs2, .slice Av n.links.length cv]) (by simp [results, Tryz.results85, go_sem, *]) rfl ?_
      have := Hst.out.done
      simpa using this
end Go.Proofs.YtfajmlkiidnhlaaGreat
