/- Texts merged (a claim holds at most sixty files): Da, Dv. -/
import Derived.Test.YtbddkmlfjghllaaGreatDoorT1S
import Derived.Test.YtbddkmlfjghllaaGreatDoorT1A
import Derived.Deep.RegionHeld3
import Derived.Deep.QuietTactic
import Derived.BigQuiet
import Derived.StillTailTactics
/- Contracts: the source of draws: made, and asked for a number. -/
namespace Go.Proofs.YtbddkmlfjghllaaGreatDoor
set_option linter.unusedVariables false
set_option linter.unusedSimpArgs false
open Go.RowKit
attribute [local go_sem] cell_onto

theorem Bytes.below {w w' : World} {lo hi n : Nat} {v : Value} {g : Nat} (h : Bytes w lo hi v n) (hx : Off (One g) w w') (hg : hi ≤ g) (hh : hi ≤ w.heap.size) : Bytes w' lo hi v n :=
  h.off hx (fun k _ hk hh => by have e : k = g := hh; omega) hh
theorem Drw.fin {b0 g cn j : Nat} {cv : Value} {s : Int} {w w1 w2 : World} (h : Src b0 g cv cn w) (ho : Off (One g) w w1) (hb : Boxed w1 g [cv, .int .i64 j, .int .i64 s]) (hj : j ≤ cn) (h0 : 0 ≤ s) (h1 : s ≤ 2147483646) (hx : Ext w1 w2) : Drw b0 g cv cn w w2 := by
  have hl := h.lt
  have hlo := h.lo
  exact ⟨ho.trans (Off.of_ext hx), hlo, (h.code.below ho hlo (by omega)).ext hx (by have := ho.size; omega), j, s, hb.ext hx, hj, h0, h1⟩
theorem Drw.step {b0 g cn j : Nat} {cv : Value} {s : Int} {w w1 w2 : World} (h : Src b0 g cv cn w) (ho : Off (One g) w w1) (hb : Boxed w1 g [cv, .int .i64 j, .int .i64 s]) (hj : j < cn) (h0 : 0 ≤ s) (h1 : s ≤ 2147483646) (hx : Ext w1 w2) :
    Drw b0 g cv cn w (w2.setCell ⟨g, 1, none⟩ (.int .i64 ((j : Int) + 1))) := by
  have h2 := (hb.ext hx).set 1 (.int .i64 ((j : Int) + 1)) (by simp)
  exact Drw.fin (j := j + 1) h (Off.setCell (S := One g) (p := ⟨g, 1, none⟩) (ho.trans (Off.of_ext hx)) (.inl rfl) _) h2 hj h0 h1 (Ext.refl _)
theorem seed_fit {s : Int} (h0 : 0 ≤ s) (h1 : s ≤ 2147483646) : 0 ≤ (s * 48271 + 67) % 2147483647 ∧ (s * 48271 + 67) % 2147483647 ≤ 2147483646 := by omega
theorem seed_fit' {s x : Int} (h0 : 0 ≤ s) (h1 : s ≤ 2147483646) (hx0 : 0 ≤ x) (hx1 : x ≤ 255) : 0 ≤ (s * 67 + x) % 2147483647 ∧ (s * 67 + x) % 2147483647 ≤ 2147483646 := by omega
theorem below_mod {x n : Int} (h : 1 < n) : Below' n (x % n) := ⟨Int.emod_nonneg _ (by omega), fun _ => Int.emod_lt_of_pos _ (by omega), fun hh => by omega⟩
theorem below_no {n : Int} (h : n ≤ 1) : Below' n 0 := ⟨Int.le_refl _, fun hh => by omega, fun _ => rfl⟩

set_option maxHeartbeats 2000000 in
theorem spec_l01Next (b0 g cn : Nat) (cv : Value) (n : Int) (w : World) (h : Src b0 g cv cn w) :
    Calls Tryz.prog 38 #[.pointer (some ⟨g, 0, none⟩), .int .i64 n] w (DrNum b0 g cv cn (Below' n) w) := by
  by_cases hn : n ≤ 1
  · go_enter Tryz.func38, Tryz.ntmps38
    go_wp2_with fail
    go_ret
    exact ⟨0, rfl, below_no hn, Drw.refl h⟩
  have Hn := Lib.hid (show 1 < n by omega)
  have hn1 : 1 < n := by omega
  have hn2 : (n ≤ 1) = False := by simp; omega
  obtain ⟨A, c, rfl, hc⟩ := h.code.len
  have Hs := Lib.hid h
  have hlo := h.lo
  have hgl := h.lt
  obtain ⟨j, seed, hb, hj, hs0, hs1⟩ := h.box
  have hcn : cn ≤ 4096 := h.code.1
  have Hb := Lib.hid hb
  have bx0 := hb.at0
  have bx1 := hb.at1
  have bx2 := hb.at2
  have fz2 := hb.fz 2 (by simp)
  have fz1 := hb.fz 1 (by simp)
  obtain ⟨q0, q1⟩ := seed_fit hs0 hs1
  clear h hb hn hn2
  go_enter Tryz.func38, Tryz.ntmps38
  go_wp2_with fail
  generalize (seed * 48271 + 67) % 2147483647 = s2 at *
  have hbx := (Hb.out.set 2 (.int .i64 s2) (by simp))
  have Hw : Hid (Off (One g) w (w.setCell ⟨g, 2, none⟩ (.int .i64 s2))) := Lib.hid (Off.setCell (S := One g) (p := ⟨g, 2, none⟩) (Off.refl _ w) (.inl rfl) _)
  generalize w.setCell ⟨g, 2, none⟩ (.int .i64 s2) = w1 at *
  have Hb1 := Lib.hid (show Boxed w1 g [.slice A cn c, .int .i64 j, .int .i64 s2] from hbx)
  clear bx0 bx1 bx2 fz1 fz2 hbx
  have bx0 := Hb1.out.at0
  have bx1 := Hb1.out.at1
  have fz1 := Hb1.out.fz 1 (by simp)
  have hsz := Hw.out.size
  have hg1 : g < w1.heap.size := Hb1.out.1
  have x0 : 0 ≤ s2 / 43 := by omega
  have x1 : s2 / 43 ≤ 49941480 := by omega
  obtain ⟨x, hx⟩ : ∃ x, x = s2 / 43 := ⟨_, rfl⟩
  rw [← hx] at x0 x1
  rw [← hx]
  by_cases hlt : j < cn
  · obtain ⟨b, off, y, rfl, hb0, hc0, y0, y1⟩ := (Hs.out.code.below Hw.out hlo (by omega)).at_ hlt
    have hlt' : decide ((j : Int) < (cn : Int)) = true := decide_eq_true (by omega)
    have hji : (0 : Int) ≤ (j : Int) := by omega
    have hjc : (j : Int) < (cn : Int) := by omega
    clear hx
    go_quiet (fail)
    go_wp2_with fail
    go_quiet (fail)
    go_wp2_with fail
    have Hx0 := Lib.hid (below_mod (x := y) (n := n) hn1)
    · go_quiet (fail)
      go_wp2_with fail
      go_ret
      exact ⟨_, rfl, Hx0.out, (Drw.step Hs.out Hw.out Hb1.out hlt q0 q1 (by repeat (first | exact Ext.refl _ | assumption | refine Ext.alloc ?_ _ | refine Ext.drew ?_ | refine Ext.drewN ?_ _ | refine Ext.setCell ?_ (by first | (simp; done) | (simp; omega) | omega) _ | refine Ext.trans ?_ (by assumption)))).drewN _⟩
    all_goals
      have Hx1 := Lib.hid (below_mod (x := x + y) (n := n) hn1)
      go_ret
      exact ⟨_, rfl, Hx1.out, Drw.step Hs.out Hw.out Hb1.out hlt q0 q1 (by repeat (first | exact Ext.refl _ | assumption | refine Ext.alloc ?_ _ | refine Ext.drew ?_ | refine Ext.drewN ?_ _ | refine Ext.setCell ?_ (by first | (simp; done) | (simp; omega) | omega) _ | refine Ext.trans ?_ (by assumption)))⟩
  · have hlt' : decide ((j : Int) < (cn : Int)) = false := decide_eq_false (by omega)
    have Hx := Lib.hid (below_mod (x := x) (n := n) hn1)
    clear hx
    go_quiet (fail)
    go_wp2_with fail
    go_ret
    exact ⟨_, rfl, Hx.out, Drw.fin Hs.out Hw.out Hb1.out hj q0 q1 (by repeat (first | exact Ext.refl _ | assumption | refine Ext.alloc ?_ _ | refine Ext.drew ?_ | refine Ext.drewN ?_ _ | refine Ext.setCell ?_ (by first | (simp; done) | (simp; omega) | omega) _ | refine Ext.trans ?_ (by assumption)))⟩
set_option maxHeartbeats 1000000 in
theorem spec_l01Pick (b0 g cn : Nat) (cv v : Value) (l : List Int) (w : World) (h : Src b0 g cv cn w) (hl : Ints w 0 w.heap.size v l) (h0 : 0 < l.length) (hg : ∀ w', Drw b0 g cv cn w w' → Ints w' 0 w'.heap.size v l) :
    Calls Tryz.prog 40 #[.pointer (some ⟨g, 0, none⟩), v] w (DrNum b0 g cv cn (fun r => r ∈ l) w) := by
  obtain ⟨A, c, rfl, hn, hc⟩ := hl.len
  have Hs := Lib.hid h
  have Hg := Lib.hid hg
  clear h hg hl
  go_enter Tryz.func40, Tryz.ntmps40
  go_wp2_with fail
  refine Calls.mono (spec_l01Next b0 g cn cv l.length w Hs.out) ?_
  rintro e w1 ⟨r, rfl, ⟨r0, r1, r2⟩, hd⟩
  have hr : r < l.length := by
    rcases Nat.lt_or_ge 1 l.length with h1 | h1
    · exact r1 (by omega)
    · rw [r2 (by omega)]; omega
  obtain ⟨i, rfl⟩ := Int.eq_ofNat_of_zero_le r0
  obtain ⟨b, off, rfl, _, hb, hcell⟩ := (Hg.out w1 hd).at_ (i := i) (by omega)
  have Hm := Lib.hid (show inAt l i ∈ l from by
    unfold inAt
    rw [List.getD_eq_getElem?_getD, List.getElem?_eq_getElem (show i < l.length by omega)]
    exact List.getElem_mem _)
  have Hd := Lib.hid hd
  clear hd r1 r2
  go_wp2_with fail
  go_ret
  exact ⟨_, rfl, Hm.out, Hd.out⟩
set_option maxRecDepth 100000 in
set_option maxHeartbeats 4000000 in
theorem spec_l01From (cn : Nat) (cv : Value) (w : World) (h : Bytes w 0 w.heap.size cv cn) :
    Calls Tryz.prog 36 #[cv] w fun e w' => e = .returned (.pointer (some ⟨w.heap.size, 0, none⟩)) ∧ Ext w w' ∧ Src w.heap.size w.heap.size cv cn w' := by
  obtain ⟨A, c, rfl, hc⟩ := h.len
  have H := Lib.hid h
  have hcn : cn ≤ 4096 := h.1
  clear h
  have Hb0 := Lib.hid (Boxed.new w [.slice A cn c, .int .i64 0, .int .i64 34001] 140)
  go_enter Tryz.func36, Tryz.ntmps36
  go_wp2_with fail
  go_loopg [4] cn (fun q i wr => ∃ (j : Nat) (s : Int), j + q = cn ∧ i = .int .i64 j ∧ 0 ≤ s ∧ s ≤ 2147483646 ∧ Ext w wr ∧ Boxed wr w.heap.size [.slice A cn c, .int .i64 0, .int .i64 s])
  case atStart => exact ⟨0, 34001, by omega, rfl, by omega, by omega, (by repeat (first | exact Ext.refl _ | assumption | refine Ext.alloc ?_ _ | refine Ext.drew ?_ | refine Ext.drewN ?_ _ | refine Ext.setCell ?_ (by first | (simp; done) | (simp; omega) | omega) _ | refine Ext.trans ?_ (by assumption))), Hb0.out⟩
  case round =>
    obtain ⟨j, s, hj, rfl, s0, s1, hx, hb⟩ := hrel
    have bx0 := hb.at0
    have bx1 := hb.at1
    have bx2 := hb.at2
    have fz2 := hb.fz 2 (by simp)
    have hgz := hb.1
    have Hb := Lib.hid hb
    clear hb
    by_cases hlt : j < cn ∧ j < 64
    · obtain ⟨hlt, h64⟩ := hlt
      obtain ⟨b, off, y, rfl, hb0, hc0, y0, y1⟩ := (H.out.ext hx (Nat.le_refl _)).at_ hlt
      obtain ⟨q0, q1⟩ := seed_fit' s0 s1 y0 y1
      have T1 : decide ((j : Int) < (cn : Int)) = true := decide_eq_true (by omega)
      have T2 : decide ((j : Int) < 64) = true := decide_eq_true (by omega)
      have hne : b ≠ w.heap.size := by omega
      go_wp2_with fail
      go_still_tail 15, (by kernel_rfl)
      go_wp2_with fail
      go_roundg (cn - (j + 1))
      case measure => omega
      case rel => exact ⟨j + 1, _, by omega, by go_num, q0, q1, (by repeat (first | exact Ext.refl _ | assumption | refine Ext.alloc ?_ _ | refine Ext.drew ?_ | refine Ext.drewN ?_ _ | refine Ext.setCell ?_ (by first | (simp; done) | (simp; omega) | omega) _ | refine Ext.trans ?_ (by assumption))), (Hb.out.ext (by repeat (first | exact Ext.refl _ | assumption | refine Ext.alloc ?_ _ | refine Ext.drew ?_ | refine Ext.drewN ?_ _ | refine Ext.setCell ?_ (by first | (simp; done) | (simp; omega) | omega) _ | refine Ext.trans ?_ (by assumption)))).set 2 _ (by simp)⟩
    · have Hdone : Hid (Src w.heap.size w.heap.size (.slice A cn c) cn wr) := Lib.hid ⟨Nat.le_refl _, H.out.ext hx (Nat.le_refl _), 0, s, Hb.out, Nat.zero_le _, s0, s1⟩
      by_cases h1 : j < cn
      · have T1 : decide ((j : Int) < (cn : Int)) = true := decide_eq_true (by omega)
        have T2 : decide ((j : Int) < 64) = false := decide_eq_false (by omega)
        go_wp2_with fail
        go_ret
        exact ⟨rfl, hx, Hdone.out⟩
      · have T1 : decide ((j : Int) < (cn : Int)) = false := decide_eq_false (by omega)
        go_wp2_with fail
        go_ret
        exact ⟨rfl, hx, Hdone.out⟩
end Go.Proofs.YtbddkmlfjghllaaGreatDoor

/- Contract: a day that is drawn. (Taken out of XDq; genDq.py no longer prints it.) -/
namespace Go.Proofs.YtbddkmlfjghllaaGreatDoor
set_option linter.unusedVariables false
set_option linter.unusedSimpArgs false
open Go.RowKit
attribute [local go_sem] cell_onto

set_option maxRecDepth 100000 in
set_option maxHeartbeats 2000000 in
theorem spec_l01DrawDay (b0 g cn : Nat) (cv : Value) (w : World) (h : Src b0 g cv cn w) : Calls Tryz.prog 88 #[.pointer (some ⟨g, 0, none⟩)] w (DrNum b0 g cv cn (fun _ => True) w) := by
  have hg := h.lt
  have Hs := Lib.hid h
  clear h
  go_enter Tryz.func88, Tryz.ntmps88
  go_wp2_with fail
  refine Calls.mono (spec_l01Next _ _ cn _ 16 _ Hs.out) ?_
  rintro e w2 ⟨r, rfl, -, hd2⟩
  have Hd2 := Lib.hid hd2
  have hz2 := hd2.size
  clear hd2
  by_cases z0 : r = 0
  · subst z0
    have hpk := box_pick (b0 := b0) (g := g) (cn := cn) (cv := cv) [-1, 0, 1, 2, 730498, 730499, 730500] (Boxed.new w2 [.int .i64 (-1), .int .i64 0, .int .i64 1, .int .i64 2, .int .i64 730498, .int .i64 730499, .int .i64 730500] 2) (by simp) (by omega)
    have Hpk := Lib.hid hpk
    clear hpk
    go_wp2_with fail
    refine Calls.mono (spec_l01Pick _ _ cn _ _ [-1, 0, 1, 2, 730498, 730499, 730500] _ (Hd2.out.alloc _).src Hpk.out.1 (by simp) Hpk.out.2) ?_
    rintro e w5 ⟨x, rfl, -, hd5⟩
    have Hd5 := Lib.hid ((Hd2.out.alloc _).trans hd5)
    clear hd5
    go_wp2_with fail
    go_ret
    exact ⟨x, rfl, trivial, Hd5.out⟩
  · have z0' : (r == 0) = false := by simpa using z0
    go_wp2_with fail
    refine Calls.mono (spec_l01Next _ _ cn _ _ _ Hd2.out.src) ?_
    rintro e w3 ⟨x, rfl, -, hd3⟩
    have Hd3 := Lib.hid (Hd2.out.trans hd3)
    clear hd3
    go_wp2_with fail
    go_ret
    exact ⟨x, rfl, trivial, Hd3.out⟩
end Go.Proofs.YtbddkmlfjghllaaGreatDoor
