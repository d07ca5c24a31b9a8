/- Texts merged (a claim holds at most sixty files): Gv, Gw, Gx. -/
import Derived.Test.YtfmnkojjkjkdeaaGreatDoorQ3Yb
import Derived.Test.YtfmnkojjkjkdeaaGreatDoorQ3T
/- Contracts: networks in which statements are given up. -/
namespace Go.Proofs.YtfmnkojjkjkdeaaGreatDoor
set_option linter.unusedVariables false
set_option linter.unusedSimpArgs false
open Go.RowKit
attribute [local go_sem] cell_onto

theorem setLen {n : Net} (h : NetOk n) {j : Nat} (hj : j < n.sets.length) : (setAt n.sets j).length ≤ 1048576 := by have := (h.2.2.1 j hj).1; omega
theorem lk_cells (l : Lk) : ∀ i, i < 4 → [Value.int .i64 l.be, .int .i64 l.af, .int .i64 l.le, .int .i64 l.mo][i]? = some (linkCell [l] i)
  | 0, _ => rfl
  | 1, _ => rfl
  | 2, _ => rfl
  | 3, _ => rfl
  | i + 4, h => absurd h (by omega)

set_option maxRecDepth 100000 in
set_option maxHeartbeats 8000000 in
theorem impl_giveUp (s k : Value) (n : Net) (g : Nat) (caps : Array Value) (is : Nat → Prop) (w : World) (h : NetIn w s k n) (hok : NetOk n)
    (hg : ∀ (args : Array Value) (w : World), (callFunc g args).run Tryz.prog w = .ok (.enter g args) w)
    (hf : ∀ (i : Nat) (w' : World), i < n.sets.length + n.links.length → Ext w w' → Calls Tryz.prog g (#[.int .i64 i] ++ caps) w' (RetX (.bool (B (is i))) w')) :
    Calls Tryz.prog 127 #[.agg #[s, k], .func (.func g) #[] caps] w (NewNet (giveN is n) w) := by
  obtain ⟨As, cs, rfl, hns, hcs⟩ := h.1.len
  obtain ⟨Ak, ck, rfl, hnk, hck⟩ := h.2.len
  have H := Lib.hid h
  have Hok := Lib.hid hok
  have h8 := hok.1
  have h20 := hok.2.1
  have Hf2 : Hid (∀ (j : Nat) (w' : World), j < n.links.length → Ext w w' → Calls Tryz.prog g (#[.int .i64 ((n.sets.length : Int) + (j : Int))] ++ caps) w' (RetX (.bool (B (is (n.sets.length + j)))) w')) :=
    Lib.hid (fun j w' hj hx => by have := hf (n.sets.length + j) w' (by omega) hx; rwa [Int.natCast_add] at this)
  have Hf := Lib.hid hf
  clear h hok hf
  go_enter Tryz.func127, Tryz.ntmps127
  go_wp2_with fail
  go_loopg [6, 7, 14] n.sets.length (fun q u6 u7 i wr => ∃ (j : Nat) (sv : Value), j + q = n.sets.length ∧ i = .int .i64 j ∧ OwnSt 118 48 w (w.heap.size + 1 + 1) (.slice As n.sets.length cs) (.slice Ak n.links.length ck) (.slice none 0 0) noNet (gvS is n.sets j) sv wr)
  case atStart =>
    refine ⟨0, .slice none 0 0, by omega, rfl, (by repeat (first | exact Ext.refl _ | assumption | refine Ext.alloc ?_ _ | refine Ext.drew ?_ | refine Ext.drewN ?_ _ | refine Ext.setCell ?_ (by first | (simp; done) | (simp; omega) | omega) _ | refine Ext.trans ?_ (by assumption))), (Boxed.new w [.slice As n.sets.length cs, .slice Ak n.links.length ck] 27).ext (by repeat (first | exact Ext.refl _ | assumption | refine Ext.alloc ?_ _ | refine Ext.drew ?_ | refine Ext.drewN ?_ _ | refine Ext.setCell ?_ (by first | (simp; done) | (simp; omega) | omega) _ | refine Ext.trans ?_ (by assumption))), ?_, ?_, by omega, ?_, (fun g hg => by cases hg), SetsBy.nil _ _ _⟩
    · have := (Boxed.new (w.alloc (.cells #[.slice As n.sets.length cs, .slice Ak n.links.length ck] 27)) [.slice none 0 0, .slice none 0 0] 27).ext ((Ext.refl _).alloc (.cells #[.slice none 0 0, .slice none 0 0] 27))
      rw [World.size_alloc] at this
      exact this
    · have := Boxed.new ((w.alloc (.cells #[.slice As n.sets.length cs, .slice Ak n.links.length ck] 27)).alloc (.cells #[.slice none 0 0, .slice none 0 0] 27)) [.slice none 0 0, .slice none 0 0] 27
      rw [World.size_alloc, World.size_alloc] at this
      exact this
    · simpa [cellsOf, noNet] using World.ownsRow_nil _ (w.heap.size + 2) 118 4
  case round =>
    obtain ⟨j, sv, hj, rfl, hx, hbb, hrb, hob, hgo, hk, hkg, f, hsf⟩ := hrel
    have Hkg := Lib.hid hkg
    clear hkg
    have hlt0 : (gvS is n.sets j).length ≤ 1048576 := by rw [gvS_len]; omega
    by_cases hlt : j < n.sets.length
    · obtain ⟨b, off, u, rfl, _, hb, h1, h2⟩ := (H.out.1.ext hx (Nat.le_refl _)).at_ hlt
      have H2 := Lib.hid h2
      have Hbb := Lib.hid hbb
      have Hrbb := Lib.hid hrb
      have Hobb := Lib.hid hob
      have Hkk := Lib.hid hk
      have Hsff := Lib.hid hsf
      have hwr := hx.size
      clear h2 hbb hrb hob hk hsf
      go_wp2_with fail
      refine Calls.mono (Hf.out j wr (by omega) hx) ?_
      rintro e w1 ⟨rfl, hx1⟩
      have hxw : Ext w w1 := hx.trans hx1
      have hw1 := hx1.size
      have hb := Hbb.out.ext hx1; have hb0 := hb.at0; have hb1 := hb.at1; have hbg := hb.1; have Hhb := Lib.hid hb; clear hb
      have Hrb := Lib.hid (Hrbb.out.ext hx1)
      have Hob1 := Lib.hid (Hobb.out.ext hx1)
      have Hk1 := Lib.hid (row_ext Hkk.out hx1)
      have Hsf1 := Lib.hid (Hsff.out.ext hx1)
      have hz := Hob1.out.1
      have ho0 := Hob1.out.at0
      have ho0f := Hob1.out.fz 0 (by simp)
      have H21 := Lib.hid (H2.out.ext hx1 hwr)
      have hw1w : w.heap.size ≤ w1.heap.size := hxw.size
      clear Hbb Hrbb Hobb Hkk Hsff H2 h1
      by_cases hi : is j
      · have Hi := Lib.hid hi
        have hq := B_true hi
        rw [hq]
        clear hq hi
        have Hlen := Lib.hid (show allDays.length ≤ 1048576 by decide)
        have Hsp : Hid (Spans (w1.alloc (.cells #[.int .i64 0, .int .i64 730499] 134)) 0 (w1.alloc (.cells #[.int .i64 0, .int .i64 730499] 134)).heap.size (.slice (some ⟨w1.heap.size, 0, none⟩) 1 1) allDays) := Lib.hid ((Boxed.new w1 [.int .i64 0, .int .i64 730499] 134).row rfl (span_cells 0 730499))
        go_wp2_with fail
        go_region_law (first
            | (refine step_append_row rfl (.tmp 25) (.tmp 28) 24 rfl (w.heap.size + 1 + 1 + 1) 48 1 24 Tryz.underlying24 (by kernel_rfl) (by omega) sv (gvS is n.sets j).length 1 _ rfl (Hsf1.out.ext (by repeat (first | exact Ext.refl _ | assumption | refine Ext.alloc ?_ _ | refine Ext.drew ?_ | refine Ext.drewN ?_ _ | refine Ext.setCell ?_ (by first | (simp; done) | (simp; omega) | omega) _ | refine Ext.trans ?_ (by assumption)))).1 (.inr (by omega)) 0 _ _ (fun _ => .slice Au (allDays).length cu) rfl ((Boxed.new w2 [.slice Au (allDays).length cu] 48).row1) (fun _ _ => rfl) (by unfold maxLen; omega) (by omega) (by have := hx2.size; simp at this ⊢; omega) ?_; intro v3 w3 hown3 hput3; obtain ⟨Av3, cv3, rfl⟩ := ownsRow_len hown3; have hob3 : Boxed w3 (w.heap.size + 1 + 1) [sv, .slice none 0 0] := Boxed.off (Hob1.out.ext (by repeat (first | exact Ext.refl _ | assumption | refine Ext.alloc ?_ _ | refine Ext.drew ?_ | refine Ext.drewN ?_ _ | refine Ext.setCell ?_ (by first | (simp; done) | (simp; omega) | omega) _ | refine Ext.trans ?_ (by assumption)))) hput3.1 (fun hh => by have := hh.1; omega); have ho3 := hob3.at0; have ho3f := hob3.fz 0 (by simp); clear hob3)
            | (go_simp; go_at_call 197; refine Calls.mono (slices_Clone_spans _ (allDays) _ (Hsp.out.up (by repeat (first | exact Ext.refl _ | assumption | refine Ext.alloc ?_ _ | refine Ext.drew ?_ | refine Ext.drewN ?_ _ | refine Ext.setCell ?_ (by first | (simp; done) | (simp; omega) | omega) _ | refine Ext.trans ?_ (by assumption)))) Hlen.out) ?_; rintro e w2 ⟨uv, rfl, hx2, hu⟩; obtain ⟨Au, cu, rfl⟩ := ownsRow_len hu; have ho2 := (Hob1.out.ext (show Ext w1 w2 from (by repeat (first | exact Ext.refl _ | assumption | refine Ext.alloc ?_ _ | refine Ext.drew ?_ | refine Ext.drewN ?_ _ | refine Ext.setCell ?_ (by first | (simp; done) | (simp; omega) | omega) _ | refine Ext.trans ?_ (by assumption))))).at0; have ho2a := (Hob1.out.ext (show Ext w1 (w2.alloc (.cells #[.slice Au (allDays).length cu] 48)) from (by repeat (first | exact Ext.refl _ | assumption | refine Ext.alloc ?_ _ | refine Ext.drew ?_ | refine Ext.drewN ?_ _ | refine Ext.setCell ?_ (by first | (simp; done) | (simp; omega) | omega) _ | refine Ext.trans ?_ (by assumption))))).at0))
        all_goals
          have Hst := Lib.hid (OwnSt.push (s := allDays) hxw Hhb.out Hrb.out Hob1.out hgo Hk1.out Hkg.out Hsf1.out (show Ext w1 (w2.alloc (.cells #[.slice Au (allDays).length cu] 48)) from (by repeat (first | exact Ext.refl _ | assumption | refine Ext.alloc ?_ _ | refine Ext.drew ?_ | refine Ext.drewN ?_ _ | refine Ext.setCell ?_ (by first | (simp; done) | (simp; omega) | omega) _ | refine Ext.trans ?_ (by assumption)))) (row_ext hu ((Ext.refl _).alloc _)) (Ext.size (by repeat (first | exact Ext.refl _ | assumption | refine Ext.alloc ?_ _ | refine Ext.drew ?_ | refine Ext.drewN ?_ _ | refine Ext.setCell ?_ (by first | (simp; done) | (simp; omega) | omega) _ | refine Ext.trans ?_ (by assumption)))) hput3 hown3)
          clear hown3 hput3 hu ho3 ho3f ho2 ho2a hb0 hb1 hbg ho0 ho0f
          go_wp2_with fail
          go_roundg (n.sets.length - (j + 1))
          case measure => omega
          case rel => exact ⟨j + 1, _, by omega, by go_num, by rw [gvS_yes Hi.out]; exact Hst.out⟩
      · have Hi := Lib.hid hi
        have hq := B_false hi
        rw [hq]
        clear hq hi
        have Hlen := Lib.hid (setLen Hok.out hlt)
        go_wp2_with fail
        go_region_law (first
            | (refine step_append_row rfl (.tmp 25) (.tmp 28) 24 rfl (w.heap.size + 1 + 1 + 1) 48 1 24 Tryz.underlying24 (by kernel_rfl) (by omega) sv (gvS is n.sets j).length 1 _ rfl (Hsf1.out.ext (by repeat (first | exact Ext.refl _ | assumption | refine Ext.alloc ?_ _ | refine Ext.drew ?_ | refine Ext.drewN ?_ _ | refine Ext.setCell ?_ (by first | (simp; done) | (simp; omega) | omega) _ | refine Ext.trans ?_ (by assumption)))).1 (.inr (by omega)) 0 _ _ (fun _ => .slice Au (setAt n.sets j).length cu) rfl ((Boxed.new w2 [.slice Au (setAt n.sets j).length cu] 48).row1) (fun _ _ => rfl) (by unfold maxLen; omega) (by omega) (by have := hx2.size; simp at this ⊢; omega) ?_; intro v3 w3 hown3 hput3; obtain ⟨Av3, cv3, rfl⟩ := ownsRow_len hown3; have hob3 : Boxed w3 (w.heap.size + 1 + 1) [sv, .slice none 0 0] := Boxed.off (Hob1.out.ext (by repeat (first | exact Ext.refl _ | assumption | refine Ext.alloc ?_ _ | refine Ext.drew ?_ | refine Ext.drewN ?_ _ | refine Ext.setCell ?_ (by first | (simp; done) | (simp; omega) | omega) _ | refine Ext.trans ?_ (by assumption)))) hput3.1 (fun hh => by have := hh.1; omega); have ho3 := hob3.at0; have ho3f := hob3.fz 0 (by simp); clear hob3)
            | (go_simp; go_at_call 197; refine Calls.mono (slices_Clone_spans _ (setAt n.sets j) _ (H21.out.upAt hw1w (by repeat (first | exact Ext.refl _ | assumption | refine Ext.alloc ?_ _ | refine Ext.drew ?_ | refine Ext.drewN ?_ _ | refine Ext.setCell ?_ (by first | (simp; done) | (simp; omega) | omega) _ | refine Ext.trans ?_ (by assumption)))) Hlen.out) ?_; rintro e w2 ⟨uv, rfl, hx2, hu⟩; obtain ⟨Au, cu, rfl⟩ := ownsRow_len hu; have ho2 := (Hob1.out.ext (show Ext w1 w2 from (by repeat (first | exact Ext.refl _ | assumption | refine Ext.alloc ?_ _ | refine Ext.drew ?_ | refine Ext.drewN ?_ _ | refine Ext.setCell ?_ (by first | (simp; done) | (simp; omega) | omega) _ | refine Ext.trans ?_ (by assumption))))).at0; have ho2a := (Hob1.out.ext (show Ext w1 (w2.alloc (.cells #[.slice Au (setAt n.sets j).length cu] 48)) from (by repeat (first | exact Ext.refl _ | assumption | refine Ext.alloc ?_ _ | refine Ext.drew ?_ | refine Ext.drewN ?_ _ | refine Ext.setCell ?_ (by first | (simp; done) | (simp; omega) | omega) _ | refine Ext.trans ?_ (by assumption))))).at0))
        all_goals
          have Hst := Lib.hid (OwnSt.push (s := setAt n.sets j) hxw Hhb.out Hrb.out Hob1.out hgo Hk1.out Hkg.out Hsf1.out (show Ext w1 (w2.alloc (.cells #[.slice Au (setAt n.sets j).length cu] 48)) from (by repeat (first | exact Ext.refl _ | assumption | refine Ext.alloc ?_ _ | refine Ext.drew ?_ | refine Ext.drewN ?_ _ | refine Ext.setCell ?_ (by first | (simp; done) | (simp; omega) | omega) _ | refine Ext.trans ?_ (by assumption)))) (row_ext hu ((Ext.refl _).alloc _)) (Ext.size (by repeat (first | exact Ext.refl _ | assumption | refine Ext.alloc ?_ _ | refine Ext.drew ?_ | refine Ext.drewN ?_ _ | refine Ext.setCell ?_ (by first | (simp; done) | (simp; omega) | omega) _ | refine Ext.trans ?_ (by assumption)))) hput3 hown3)
          clear hown3 hput3 hu ho3 ho3f ho2 ho2a hb0 hb1 hbg ho0 ho0f
          go_wp2_with fail
          go_roundg (n.sets.length - (j + 1))
          case measure => omega
          case rel => exact ⟨j + 1, _, by omega, by go_num, by rw [gvS_no Hi.out]; exact Hst.out⟩
    · obtain rfl : j = n.sets.length := by omega
      have hst := GvSt.start (TL := 118) (TS := 48) (sets := gvS is n.sets n.sets.length) (show OwnSt 118 48 w (w.heap.size + 1 + 1) (.slice As n.sets.length cs) (.slice Ak n.links.length ck) (.slice none 0 0) noNet (gvS is n.sets n.sets.length) sv wr from ⟨hx, hbb, hrb, hob, hgo, hk, Hkg.out, f, hsf⟩) ⟨_, rfl⟩
      obtain ⟨As2, cs2, rfl⟩ := hsf.1.len
      have Hst := Lib.hid hst
      have hb := hbb; have hb0 := hb.at0; have hb1 := hb.at1; have hbg := hb.1; have Hhb := Lib.hid hb; clear hb
      clear hbb hrb hob hk Hkg hsf hst
      go_wp2_with fail
      obtain ⟨wz, hwz⟩ : ∃ wz : World, wz = wr := ⟨_, rfl⟩
      rw [← hwz] at Hst
      have Hst' : Hid (GvSt 118 w (w.heap.size + 1 + 1) wz.heap.size (.slice As n.sets.length cs) (.slice Ak n.links.length ck) (gvS is n.sets n.sets.length) [] (.slice As2 (gvS is n.sets n.sets.length).length cs2) (.slice none 0 0) wr) := Lib.hid (hwz ▸ Hst.out)
      clear Hst hwz hb0 hb1 hbg Hhb
      go_loopg [8, 9, 35] n.links.length (fun q u8 u9 i wq => ∃ (j : Nat) (kv : Value), j + q = n.links.length ∧ i = .int .i64 j ∧ GvSt 118 w (w.heap.size + 1 + 1) wz.heap.size (.slice As n.sets.length cs) (.slice Ak n.links.length ck) (gvS is n.sets n.sets.length) (gvL is n.sets.length n.links j) (.slice As2 (gvS is n.sets n.sets.length).length cs2) kv wq)
      case atStart => exact ⟨0, _, by omega, rfl, Hst'.out⟩
      clear Hst' hx
      case round =>
        obtain ⟨j, kv, hj, rfl, hst⟩ := hrel
        obtain ⟨Akv, ckv, rfl⟩ := hst.2.2.2.2.2.2.2.2.len
        have hx := hst.1
        have Hst := Lib.hid hst
        have hll := gvL_len is n.sets.length n.links j
        clear hst
        by_cases hlt : j < n.links.length
        · obtain ⟨b, off, rfl, _, hb, h1, h2, h3, h4⟩ := (H.out.2.ext hx (Nat.le_refl _)).at_ hlt
          have hb := Hst.out.2.1; have hb0 := hb.at0; have hb1 := hb.at1; have hbg := hb.1; have Hhb := Lib.hid hb; clear hb
          go_wp2_with fail
          refine Calls.mono (Hf2.out j _ hlt (by repeat (first | exact Ext.refl _ | assumption | refine Ext.alloc ?_ _ | refine Ext.drew ?_ | refine Ext.drewN ?_ _ | refine Ext.setCell ?_ (by first | (simp; done) | (simp; omega) | omega) _ | refine Ext.trans ?_ (by assumption)))) ?_
          rintro e w2 ⟨rfl, hx2⟩
          have hx12 : Ext wr w2 := (by repeat (first | exact Ext.refl _ | assumption | refine Ext.alloc ?_ _ | refine Ext.drew ?_ | refine Ext.drewN ?_ _ | refine Ext.setCell ?_ (by first | (simp; done) | (simp; omega) | omega) _ | refine Ext.trans ?_ (by assumption)))
          have lb := (Boxed.new wr [.int .i64 (lkAt n.links j).be, .int .i64 (lkAt n.links j).af, .int .i64 (lkAt n.links j).le, .int .i64 (lkAt n.links j).mo] 118).ext hx2; have lb0 := lb.at0; have lb1 := lb.at1; have lb2 := lb.at2; have lb3 := lb.at3; have lbg := lb.1; have Hlb := Lib.hid lb; clear lb
          have Hst2 := Lib.hid (Hst.out.ext hx12)
          clear Hst hb0 hb1 hbg Hhb h1 h2 h3 h4 hx hx2
          by_cases hi : is (n.sets.length + j)
          · have Hi := Lib.hid hi
            have hq := B_true hi
            rw [hq]
            clear hq hi
            go_wp2_with fail
            go_roundg (n.links.length - (j + 1))
            case measure => omega
            case rel => exact ⟨j + 1, _, by omega, by go_num, by rw [gvL_yes Hi.out]; exact Hst2.out⟩
          · have Hi := Lib.hid hi
            have hq := B_false hi
            rw [hq]
            clear hq hi
            have ob := Hst2.out.2.2.2.1; have ob0 := ob.at0; have ob1 := ob.at1; have obg := ob.1; have Hob := Lib.hid ob; clear ob
            have of1 := Hob.out.fz 1 (by simp)
            have hz1 := Hst2.out.2.2.2.2.2.2.1
            have hz2 := Hst2.out.2.2.2.2.2.1
            go_wp2_with (at_builtin; refine wpList_append_row _ rfl _ _ 25 rfl wz.heap.size 118 4 32 Tryz.underlying25 (by kernel_rfl) (by omega) _ (gvL is n.sets.length n.links j).length 1 _ rfl (Hst2.out.2.2.2.2.2.2.2.2.ext (by repeat (first | exact Ext.refl _ | assumption | refine Ext.alloc ?_ _ | refine Ext.drew ?_ | refine Ext.drewN ?_ _ | refine Ext.setCell ?_ (by first | (simp; done) | (simp; omega) | omega) _ | refine Ext.trans ?_ (by assumption)))) (.inr (by omega)) 0 _ _ (linkCell [lkAt n.links j]) rfl ((Boxed.new w2 [.int .i64 (lkAt n.links j).be, .int .i64 (lkAt n.links j).af, .int .i64 (lkAt n.links j).le, .int .i64 (lkAt n.links j).mo] 118).row rfl (lk_cells _)) (fun i _ => linkCell_one _ i) (by unfold maxLen; omega) (by omega) (by simp; omega) ?_; intro k3 w3 hown3 hput3; obtain ⟨Ak3, ck3, rfl⟩ := ownsRow_len hown3; have hob3 := Boxed.off (Hob.out.ext (show Ext w2 (w2.alloc (.cells #[.int .i64 (lkAt n.links j).be, .int .i64 (lkAt n.links j).af, .int .i64 (lkAt n.links j).le, .int .i64 (lkAt n.links j).mo] 118)) from (by repeat (first | exact Ext.refl _ | assumption | refine Ext.alloc ?_ _ | refine Ext.drew ?_ | refine Ext.drewN ?_ _ | refine Ext.setCell ?_ (by first | (simp; done) | (simp; omega) | omega) _ | refine Ext.trans ?_ (by assumption))))) hput3.1 (fun hh => by have := hh.1; omega); have ho3 := hob3.at1; have ho3f := hob3.fz 1 (by simp); have Hst3 := Lib.hid (Hst2.out.push (l := lkAt n.links j) (show Ext w2 (w2.alloc (.cells #[.int .i64 (lkAt n.links j).be, .int .i64 (lkAt n.links j).af, .int .i64 (lkAt n.links j).le, .int .i64 (lkAt n.links j).mo] 118)) from (by repeat (first | exact Ext.refl _ | assumption | refine Ext.alloc ?_ _ | refine Ext.drew ?_ | refine Ext.drewN ?_ _ | refine Ext.setCell ?_ (by first | (simp; done) | (simp; omega) | omega) _ | refine Ext.trans ?_ (by assumption)))) hput3 hown3); clear hown3 hput3 hob3)
            go_roundg (n.links.length - (j + 1))
            case measure => omega
            case rel => exact ⟨j + 1, _, by omega, by go_num, by rw [gvL_no Hi.out]; exact Hst3.out⟩
        · obtain rfl : j = n.links.length := by omega
          have ob := Hst.out.2.2.2.1; have ob0 := ob.at0; have ob1 := ob.at1; have obg := ob.1; have Hob := Lib.hid ob; clear ob
          have rb := Hst.out.2.2.1; have rb0 := rb.at0; have rb1 := rb.at1; have rbg := rb.1; have Hrb := Lib.hid rb; clear rb
          have rf0 := Hrb.out.fz 0 (by simp)
          have rf1 := Hrb.out.fz 1 (by simp)
          go_wp2_with fail
          refine bodyPost_ret (v := .agg #[.slice As2 (gvS is n.sets n.sets.length).length cs2, .slice Akv (gvL is n.sets.length n.links n.links.length).length ckv]) (by simp [results, Tryz.results127, go_sem, *]) rfl ?_
          exact Hst.out.done
end Go.Proofs.YtfmnkojjkjkdeaaGreatDoor

/- Contracts: the reference's networks in which statements are given up; GiveUp. -/
namespace Go.Proofs.YtfmnkojjkjkdeaaGreatDoor
set_option linter.unusedVariables false
set_option linter.unusedSimpArgs false
open Go.RowKit
attribute [local go_sem] cell_onto

set_option maxHeartbeats 1000000 in
theorem spec_l13All (w : World) : Calls Tryz.prog 202 #[] w (NewOwn 134 2 1 (spanCell allDays) w) := by
  go_enter Tryz.func202, Tryz.ntmps202
  go_wp2_with fail
  go_ret
  refine ⟨_, rfl, (by repeat (first | exact Ext.refl _ | assumption | refine Ext.alloc ?_ _ | refine Ext.drew ?_ | refine Ext.drewN ?_ _ | refine Ext.setCell ?_ (by first | (simp; done) | (simp; omega) | omega) _ | refine Ext.trans ?_ (by assumption))), ?_⟩
  have := World.ownsRow_lit (base := w.heap.size) (e := 134) (size := 2) w #[.int .i64 0, .int .i64 730499] 1 (Nat.le_refl _) (by unfold maxLen; omega) rfl
  exact this

set_option maxRecDepth 100000 in
set_option maxHeartbeats 8000000 in
theorem spec_l21Without (s k v : Value) (n : Net) (l : List Int) (w : World) (h : NetIn w s k n) (hl : Ints w 0 w.heap.size v l) (hok : NetOk n) :
    Calls Tryz.prog 135 #[.agg #[s, k], v] w (NewNet (giveN (fun i => HasI l i) n) w) := by
  obtain ⟨As, cs, rfl, hns, hcs⟩ := h.1.len
  obtain ⟨Ak, ck, rfl, hnk, hck⟩ := h.2.len
  have H := Lib.hid h
  have Hl := Lib.hid hl
  have Hok := Lib.hid hok
  have h8 := hok.1
  have h20 := hok.2.1
  clear h hok hl
  go_enter Tryz.func135, Tryz.ntmps135
  go_wp2_with fail
  go_loopg [6, 7] n.sets.length (fun q i u7 wr => ∃ (j : Nat) (sv : Value), j + q = n.sets.length ∧ i = .int .i64 j ∧ OwnSt 118 48 w (w.heap.size + 1 + 1 + 1 + 1) (.slice As n.sets.length cs) (.slice Ak n.links.length ck) (.slice (some ⟨w.heap.size + 1 + 1 + 1, 0, none⟩) 0 0) noNet (gvS (fun i => HasI l i) n.sets j) sv wr)
  case atStart =>
    refine ⟨0, .slice (some ⟨w.heap.size + 1 + 1, 0, none⟩) 0 0, by omega, rfl, (by repeat (first | exact Ext.refl _ | assumption | refine Ext.alloc ?_ _ | refine Ext.drew ?_ | refine Ext.drewN ?_ _ | refine Ext.setCell ?_ (by first | (simp; done) | (simp; omega) | omega) _ | refine Ext.trans ?_ (by assumption))), (Boxed.new w [.slice As n.sets.length cs, .slice Ak n.links.length ck] 27).ext (by repeat (first | exact Ext.refl _ | assumption | refine Ext.alloc ?_ _ | refine Ext.drew ?_ | refine Ext.drewN ?_ _ | refine Ext.setCell ?_ (by first | (simp; done) | (simp; omega) | omega) _ | refine Ext.trans ?_ (by assumption))), ?_, ?_, by omega, ?_, (fun g hg => by simp [Value.ownBlock] at hg; omega), SetsBy.of_empty (.inr ⟨rfl, rfl, ⟨_, rfl⟩, fun g hg => by simp [Value.ownBlock] at hg; simp; omega⟩)⟩
    · have := (Boxed.new (w.alloc (.cells #[.slice As n.sets.length cs, .slice Ak n.links.length ck] 27)) [.slice none 0 0, .slice none 0 0] 27).ext (((((Ext.refl _).alloc (.cells #[] 48)).alloc (.cells #[] 118))).alloc (.cells #[.slice (some ⟨w.heap.size + 1 + 1, 0, none⟩) 0 0, .slice (some ⟨w.heap.size + 1 + 1 + 1, 0, none⟩) 0 0] 27))
      rw [World.size_alloc] at this
      exact this
    · have := Boxed.new ((((w.alloc (.cells #[.slice As n.sets.length cs, .slice Ak n.links.length ck] 27)).alloc (.cells #[.slice none 0 0, .slice none 0 0] 27)).alloc (.cells #[] 48)).alloc (.cells #[] 118)) [.slice (some ⟨w.heap.size + 1 + 1, 0, none⟩) 0 0, .slice (some ⟨w.heap.size + 1 + 1 + 1, 0, none⟩) 0 0] 27
      rw [World.size_alloc, World.size_alloc, World.size_alloc, World.size_alloc] at this
      exact this
    · have := row_ext (World.ownsRow_made (base := w.heap.size + 2) (e := 118) (size := 4) (((w.alloc (.cells #[.slice As n.sets.length cs, .slice Ak n.links.length ck] 27)).alloc (.cells #[.slice none 0 0, .slice none 0 0] 27)).alloc (.cells #[] 48)) #[] 0 (by simp) (Nat.zero_le _) rfl) ((Ext.refl _).alloc (.cells #[.slice (some ⟨w.heap.size + 1 + 1, 0, none⟩) 0 0, .slice (some ⟨w.heap.size + 1 + 1 + 1, 0, none⟩) 0 0] 27))
      rw [World.size_alloc, World.size_alloc, World.size_alloc] at this
      simpa [cellsOf, noNet] using this
  case round =>
    obtain ⟨j, sv, hj, rfl, hx, hbb, hrb, hob, hgo, hk, hkg, f, hsf⟩ := hrel
    have Hkg := Lib.hid hkg
    clear hkg
    have hlt0 : (gvS (fun i => HasI l i) n.sets j).length ≤ 1048576 := by rw [gvS_len]; omega
    by_cases hlt : j < n.sets.length
    · obtain ⟨b, off, u, rfl, _, hb, h1, h2⟩ := (H.out.1.ext hx (Nat.le_refl _)).at_ hlt
      have H2 := Lib.hid h2
      have hb := hbb; have hb0 := hb.at0; have hb1 := hb.at1; have hbg := hb.1; have Hhb := Lib.hid hb; clear hb
      have Hrbb := Lib.hid hrb
      have Hobb := Lib.hid hob
      have Hkk := Lib.hid hk
      have Hsff := Lib.hid hsf
      have hwr := hx.size
      have hbr : b < wr.heap.size := by omega
      have hsl := setLen Hok.out hlt
      clear h2 hbb hrb hob hk hsf
      go_wp2_with (at_builtin; refine wpList_append_row _ rfl _ _ 48 rfl wr.heap.size 134 2 16 Tryz.underlying48 (by kernel_rfl) (by omega) _ 0 (setAt n.sets j).length [] rfl (.inl (World.ownsRow_made wr #[] 0 (Nat.le_refl _) (Nat.zero_le _) rfl)) (.inl (World.ownsRow_made wr #[] 0 (Nat.le_refl _) (Nat.zero_le _) rfl)) 0 w.heap.size u (spanCell (setAt n.sets j)) rfl (H2.out.ext (by repeat (first | exact Ext.refl _ | assumption | refine Ext.alloc ?_ _ | refine Ext.drew ?_ | refine Ext.drewN ?_ _ | refine Ext.setCell ?_ (by first | (simp; done) | (simp; omega) | omega) _ | refine Ext.trans ?_ (by assumption))) hwr) (fun i _ => spanCell_one _ i) (by unfold maxLen; omega) (by omega) (by simp) ?_; intro uv w1 hu hput1; obtain ⟨Au, cu, rfl⟩ := ownsRow_len hu; simp only [Nat.zero_add, List.nil_append] at hu; have hx1 : Ext wr w1 := hput1.ext (by repeat (first | exact Ext.refl _ | assumption | refine Ext.alloc ?_ _ | refine Ext.drew ?_ | refine Ext.drewN ?_ _ | refine Ext.setCell ?_ (by first | (simp; done) | (simp; omega) | omega) _ | refine Ext.trans ?_ (by assumption))) (Nat.le_refl _); have Hu := Lib.hid hu; clear hu hput1)
      have hxw1 : Ext w w1 := hx.trans hx1
      refine Calls.mono (spec_l01Has v l j _ (Hl.out.up hxw1)) ?_
      rintro e w2 ⟨rfl, hx2⟩
      have hx12 : Ext wr w2 := hx1.trans hx2
      have hxw2 : Ext w w2 := hx.trans hx12
      have hzr := hx12.size
      clear hb0 hb1 hbg h1
      by_cases hi : HasI l j
      · have Hi := Lib.hid hi
        have hq := B_true hi
        rw [hq]
        clear hq hi
        go_wp2_with fail
        refine Calls.mono (spec_l13All _) ?_
        rintro e w3 ⟨uv, rfl, hx3, hu3⟩
        obtain ⟨Au3, cu3, rfl⟩ := ownsRow_len hu3
        have Hu3 := Lib.hid hu3
        have hx13 : Ext wr w3 := hx12.trans hx3
        have hxw3 : Ext w w3 := hx.trans hx13
        clear hu3
        have ob := Hobb.out.ext hx13; have ob0 := ob.at0; have ob1 := ob.at1; have obg := ob.1; have Hob := Lib.hid ob; clear ob
        have of0 := Hob.out.fz 0 (by simp)
        have hz3 := hxw3.size
        go_wp2_with (at_builtin; refine wpList_append_row _ rfl _ _ 24 rfl (w.heap.size + 1 + 1 + 1 + 1 + 1) 48 1 24 Tryz.underlying24 (by kernel_rfl) (by omega) sv (gvS (fun i => HasI l i) n.sets j).length 1 _ rfl (Hsff.out.ext (by repeat (first | exact Ext.refl _ | assumption | refine Ext.alloc ?_ _ | refine Ext.drew ?_ | refine Ext.drewN ?_ _ | refine Ext.setCell ?_ (by first | (simp; done) | (simp; omega) | omega) _ | refine Ext.trans ?_ (by assumption)))).1 (.inr (by omega)) 0 _ _ (fun _ => .slice Au3 1 cu3) rfl ((Boxed.new w3 [.slice Au3 1 cu3] 48).row1) (fun _ _ => rfl) (by unfold maxLen; omega) (by omega) (by simp; omega) ?_; intro v4 w4 hown4 hput4; obtain ⟨Av4, cv4, rfl⟩ := ownsRow_len hown4; have hob4 := Boxed.off (Hob.out.ext (show Ext w3 (w3.alloc (.cells #[.slice Au3 1 cu3] 48)) from (by repeat (first | exact Ext.refl _ | assumption | refine Ext.alloc ?_ _ | refine Ext.drew ?_ | refine Ext.drewN ?_ _ | refine Ext.setCell ?_ (by first | (simp; done) | (simp; omega) | omega) _ | refine Ext.trans ?_ (by assumption))))) hput4.1 (fun hh => by have := hh.1; omega); have ho4 := hob4.at0; have ho4f := hob4.fz 0 (by simp); have Hst := Lib.hid (OwnSt.push (s := allDays) hx Hhb.out Hrbb.out Hobb.out hgo Hkk.out Hkg.out Hsff.out (show Ext wr (w3.alloc (.cells #[.slice Au3 1 cu3] 48)) from (by repeat (first | exact Ext.refl _ | assumption | refine Ext.alloc ?_ _ | refine Ext.drew ?_ | refine Ext.drewN ?_ _ | refine Ext.setCell ?_ (by first | (simp; done) | (simp; omega) | omega) _ | refine Ext.trans ?_ (by assumption)))) (row_ext Hu3.out ((Ext.refl _).alloc _)) hx12.size hput4 hown4); clear hown4 hput4 hob4)
        go_roundg (n.sets.length - (j + 1))
        case measure => omega
        case rel => exact ⟨j + 1, _, by omega, by go_num, by rw [gvS_yes Hi.out]; exact Hst.out⟩
      · have Hi := Lib.hid hi
        have hq := B_false hi
        rw [hq]
        clear hq hi
        have ob := Hobb.out.ext hx12; have ob0 := ob.at0; have ob1 := ob.at1; have obg := ob.1; have Hob := Lib.hid ob; clear ob
        have of0 := Hob.out.fz 0 (by simp)
        have hz3 := hxw2.size
        go_wp2_with (at_builtin; refine wpList_append_row _ rfl _ _ 24 rfl (w.heap.size + 1 + 1 + 1 + 1 + 1) 48 1 24 Tryz.underlying24 (by kernel_rfl) (by omega) sv (gvS (fun i => HasI l i) n.sets j).length 1 _ rfl (Hsff.out.ext (by repeat (first | exact Ext.refl _ | assumption | refine Ext.alloc ?_ _ | refine Ext.drew ?_ | refine Ext.drewN ?_ _ | refine Ext.setCell ?_ (by first | (simp; done) | (simp; omega) | omega) _ | refine Ext.trans ?_ (by assumption)))).1 (.inr (by omega)) 0 _ _ (fun _ => .slice Au (setAt n.sets j).length cu) rfl ((Boxed.new w2 [.slice Au (setAt n.sets j).length cu] 48).row1) (fun _ _ => rfl) (by unfold maxLen; omega) (by omega) (by simp; omega) ?_; intro v4 w4 hown4 hput4; obtain ⟨Av4, cv4, rfl⟩ := ownsRow_len hown4; have hob4 := Boxed.off (Hob.out.ext (show Ext w2 (w2.alloc (.cells #[.slice Au (setAt n.sets j).length cu] 48)) from (by repeat (first | exact Ext.refl _ | assumption | refine Ext.alloc ?_ _ | refine Ext.drew ?_ | refine Ext.drewN ?_ _ | refine Ext.setCell ?_ (by first | (simp; done) | (simp; omega) | omega) _ | refine Ext.trans ?_ (by assumption))))) hput4.1 (fun hh => by have := hh.1; omega); have ho4 := hob4.at0; have ho4f := hob4.fz 0 (by simp); have Hst := Lib.hid (OwnSt.push (s := setAt n.sets j) hx Hhb.out Hrbb.out Hobb.out hgo Hkk.out Hkg.out Hsff.out (show Ext wr (w2.alloc (.cells #[.slice Au (setAt n.sets j).length cu] 48)) from (by repeat (first | exact Ext.refl _ | assumption | refine Ext.alloc ?_ _ | refine Ext.drew ?_ | refine Ext.drewN ?_ _ | refine Ext.setCell ?_ (by first | (simp; done) | (simp; omega) | omega) _ | refine Ext.trans ?_ (by assumption)))) (row_ext (row_ext Hu.out hx2) ((Ext.refl _).alloc _)) (Nat.le_refl _) hput4 hown4); clear hown4 hput4 hob4)
        go_roundg (n.sets.length - (j + 1))
        case measure => omega
        case rel => exact ⟨j + 1, _, by omega, by go_num, by rw [gvS_no (is := fun i => HasI l i) Hi.out]; exact Hst.out⟩
    · obtain rfl : j = n.sets.length := by omega
      have hst := GvSt.start (TL := 118) (TS := 48) (sets := gvS (fun i => HasI l i) n.sets n.sets.length) (show OwnSt 118 48 w (w.heap.size + 1 + 1 + 1 + 1) (.slice As n.sets.length cs) (.slice Ak n.links.length ck) (.slice (some ⟨w.heap.size + 1 + 1 + 1, 0, none⟩) 0 0) noNet (gvS (fun i => HasI l i) n.sets n.sets.length) sv wr from ⟨hx, hbb, hrb, hob, hgo, hk, Hkg.out, f, hsf⟩) ⟨_, rfl⟩
      obtain ⟨As2, cs2, rfl⟩ := hsf.1.len
      have Hst := Lib.hid hst
      have hb := hbb; have hb0 := hb.at0; have hb1 := hb.at1; have hbg := hb.1; have Hhb := Lib.hid hb; clear hb
      clear hbb hrb hob hk Hkg hsf hst
      go_wp2_with fail
      obtain ⟨wz, hwz⟩ : ∃ wz : World, wz = wr := ⟨_, rfl⟩
      rw [← hwz] at Hst
      have Hst' : Hid (GvSt 118 w (w.heap.size + 1 + 1 + 1 + 1) wz.heap.size (.slice As n.sets.length cs) (.slice Ak n.links.length ck) (gvS (fun i => HasI l i) n.sets n.sets.length) [] (.slice As2 (gvS (fun i => HasI l i) n.sets n.sets.length).length cs2) (.slice (some ⟨w.heap.size + 1 + 1 + 1, 0, none⟩) 0 0) wr) := Lib.hid (hwz ▸ Hst.out)
      clear Hst hwz hb0 hb1 hbg Hhb
      go_loopg [8] n.links.length (fun q i wq => ∃ (j : Nat) (kv : Value), j + q = n.links.length ∧ i = .int .i64 j ∧ GvSt 118 w (w.heap.size + 1 + 1 + 1 + 1) wz.heap.size (.slice As n.sets.length cs) (.slice Ak n.links.length ck) (gvS (fun i => HasI l i) n.sets n.sets.length) (gvL (fun i => HasI l i) n.sets.length n.links j) (.slice As2 (gvS (fun i => HasI l i) n.sets n.sets.length).length cs2) kv wq)
      case atStart => exact ⟨0, _, by omega, rfl, Hst'.out⟩
      clear Hst' hx
      case round =>
        obtain ⟨j, kv, hj, rfl, hst⟩ := hrel
        obtain ⟨Akv, ckv, rfl⟩ := hst.2.2.2.2.2.2.2.2.len
        have hx := hst.1
        have Hst := Lib.hid hst
        have hll := gvL_len (fun i => HasI l i) n.sets.length n.links j
        clear hst
        have hb := Hst.out.2.1; have hb0 := hb.at0; have hb1 := hb.at1; have hbg := hb.1; have Hhb := Lib.hid hb; clear hb
        by_cases hlt : j < n.links.length
        · go_wp2_with fail
          refine Calls.mono (spec_l01Has v l ((n.sets.length : Int) + (j : Int)) _ (Hl.out.up hx)) ?_
          rintro e w2 ⟨rfl, hx2⟩
          have hxw2 : Ext w w2 := hx.trans hx2
          have Hst2 := Lib.hid (Hst.out.ext hx2)
          clear Hst hb0 hb1 hbg Hhb hx
          by_cases hi : HasI l (((n.sets.length + j : Nat) : Int))
          · have Hi := Lib.hid hi
            have hq := B_true (show HasI l ((n.sets.length : Int) + (j : Int)) by rw [Int.natCast_add] at hi; exact hi)
            rw [hq]
            clear hq hi
            go_wp2_with fail
            go_roundg (n.links.length - (j + 1))
            case measure => omega
            case rel => exact ⟨j + 1, _, by omega, by go_num, by rw [gvL_yes (is := fun i => HasI l i) Hi.out]; exact Hst2.out⟩
          · have Hi := Lib.hid hi
            have hq := B_false (show ¬ HasI l ((n.sets.length : Int) + (j : Int)) by rw [Int.natCast_add] at hi; exact hi)
            rw [hq]
            clear hq hi
            obtain ⟨b, off, rfl, _, hb, h1, h2, h3, h4⟩ := (H.out.2.ext hxw2 (Nat.le_refl _)).at_ hlt
            have hb := Hst2.out.2.1; have hb0 := hb.at0; have hb1 := hb.at1; have hbg := hb.1; have Hhb := Lib.hid hb; clear hb
            have ob := Hst2.out.2.2.2.1; have ob0 := ob.at0; have ob1 := ob.at1; have obg := ob.1; have Hob := Lib.hid ob; clear ob
            have of1 := Hob.out.fz 1 (by simp)
            have hz1 := Hst2.out.2.2.2.2.2.2.1
            have hz2 := Hst2.out.2.2.2.2.2.1
            have hbr : b < w2.heap.size := by have := hxw2.size; omega
            have hjl : (j : Int) < (n.links.length : Int) := by omega
            go_wp2_with fail
            go_region_law (first
              | (refine step_append_row rfl (.tmp 52) (.tmp 58) 25 rfl wz.heap.size 118 4 32 Tryz.underlying25 (by kernel_rfl) (by omega) _ (gvL (fun i => HasI l i) n.sets.length n.links j).length 1 _ rfl (Hst2.out.2.2.2.2.2.2.2.2.ext (by repeat (first | exact Ext.refl _ | assumption | refine Ext.alloc ?_ _ | refine Ext.drew ?_ | refine Ext.drewN ?_ _ | refine Ext.setCell ?_ (by first | (simp; done) | (simp; omega) | omega) _ | refine Ext.trans ?_ (by assumption)))) (.inr (by omega)) 0 _ _ (linkCell [lkAt n.links j]) rfl ((Boxed.new w2.drew [.int .i64 (lkAt n.links j).be, .int .i64 (lkAt n.links j).af, .int .i64 (lkAt n.links j).le, .int .i64 (lkAt n.links j).mo] 118).row rfl (lk_cells _)) (fun i _ => linkCell_one _ i) (by unfold maxLen; omega) (by omega) (by simp; omega) ?_; intro k3 w3 hown3 hput3; obtain ⟨Ak3, ck3, rfl⟩ := ownsRow_len hown3; have hx2d : Ext w2 (w2.drew.alloc (.cells #[.int .i64 (lkAt n.links j).be, .int .i64 (lkAt n.links j).af, .int .i64 (lkAt n.links j).le, .int .i64 (lkAt n.links j).mo] 118)) := (by repeat (first | exact Ext.refl _ | assumption | refine Ext.alloc ?_ _ | refine Ext.drew ?_ | refine Ext.drewN ?_ _ | refine Ext.setCell ?_ (by first | (simp; done) | (simp; omega) | omega) _ | refine Ext.trans ?_ (by assumption))); have hob3 := Boxed.off (Hob.out.ext hx2d) hput3.1 (fun hh => by have := hh.1; omega); have ho3 := hob3.at1; have ho3f := hob3.fz 1 (by simp); have Hst3 := Lib.hid (Hst2.out.push (l := lkAt n.links j) hx2d hput3 hown3); clear hown3 hput3 hob3))
            all_goals
              go_wp2_with fail
              go_roundg (n.links.length - (j + 1))
              case measure => omega
              case rel => exact ⟨j + 1, _, by omega, by go_num, by rw [gvL_no (is := fun i => HasI l i) Hi.out]; exact Hst3.out⟩
        · obtain rfl : j = n.links.length := by omega
          have ob := Hst.out.2.2.2.1; have ob0 := ob.at0; have ob1 := ob.at1; have obg := ob.1; have Hob := Lib.hid ob; clear ob
          have rb := Hst.out.2.2.1; have rb0 := rb.at0; have rb1 := rb.at1; have rbg := rb.1; have Hrb := Lib.hid rb; clear rb
          have rf0 := Hrb.out.fz 0 (by simp)
          have rf1 := Hrb.out.fz 1 (by simp)
          go_wp2_with fail
          refine bodyPost_ret (v := .agg #[.slice As2 (gvS (fun i => HasI l i) n.sets n.sets.length).length cs2, .slice Akv (gvL (fun i => HasI l i) n.sets.length n.links n.links.length).length ckv]) (by simp [results, Tryz.results135, go_sem, *]) rfl ?_
          exact Hst.out.done
end Go.Proofs.YtfmnkojjkjkdeaaGreatDoor

/- Contracts: GiveUp. -/
namespace Go.Proofs.YtfmnkojjkjkdeaaGreatDoor
set_option linter.unusedVariables false
set_option linter.unusedSimpArgs false
open Go.RowKit
attribute [local go_sem] cell_onto

noncomputable def gvV (n : Net) (l : List Int) : Net := bif B (stmE n l = 0) then giveN (fun i => HasI l i) n else noNet
theorem gvV_no {n : Net} {l : List Int} {c : Int} (h : stmE n l = c) (h0 : c ≠ 0) : gvV n l = noNet := by unfold gvV; rw [B_false (by omega)]; rfl
theorem gvV_ok {n : Net} {l : List Int} (h : stmE n l = 0) : gvV n l = giveN (fun i => HasI l i) n := by unfold gvV; rw [B_true h]; rfl
theorem gvV_small (n : Net) (l : List Int) : Small (gvV n l) := by
  have hn : Small noNet := ⟨by simp [noNet], by simp [noNet], fun i hi => absurd hi (by simp [noNet])⟩
  by_cases h : stmE n l = 0
  · have hok : NetOk n := Classical.byContradiction (fun hh => by rw [stm_net hh] at h; omega)
    have h1 : NetOk (giveN (fun i => HasI l i) n) := giveN_ok hok
    rw [gvV_ok h]
    exact ⟨by have := h1.1; omega, by have := h1.2.1; omega, fun i hi => by have := (h1.2.2.1 i hi).1; omega⟩
  · unfold gvV
    rw [B_false h]
    exact hn
theorem OwnNet.lower {w : World} {lo lo' hi : Nat} {v : Value} {n : Net} (h : OwnNet w lo hi v n) (hl : lo' ≤ lo) : OwnNet w lo' hi v n := by
  obtain ⟨s, k, a, b, gk, e, h1, h2, h3, h4, h5⟩ := h
  exact ⟨s, k, a, b, gk, e, by omega, h2, h3, h4, fun hn => by have := h5 hn; omega⟩
/-- a network made by a callee, put into the result's box -/
theorem NewNet2.put {m : Net} {c : Int} {w w2 w3 : World} {r : Nat} {s k : Value} (hx : Ext w w2) (hr : w.heap.size ≤ r) (hr2 : r < w2.heap.size) (hx3 : Ext w2 w3) (ho : OwnNet w3 w2.heap.size w3.heap.size (.agg #[s, k]) m) :
    NewNet2 m c w (.returned (.tuple #[.agg #[s, k], .int .i64 c])) ((w3.setCell ⟨r, 0, none⟩ s).setCell ⟨r, 1, none⟩ k) := by
  have hO : Off (fun x => x = r) w3 ((w3.setCell ⟨r, 0, none⟩ s).setCell ⟨r, 1, none⟩ k) := Off.setCell (S := fun x => x = r) (p := ⟨r, 1, none⟩) (Off.setCell (S := fun x => x = r) (p := ⟨r, 0, none⟩) (Off.refl _ _) (.inl rfl) _) (.inl rfl) _
  have hz : ((w3.setCell ⟨r, 0, none⟩ s).setCell ⟨r, 1, none⟩ k).heap.size = w3.heap.size := by simp [World.setCell]
  refine ⟨s, k, rfl, (hx.trans hx3).off hO (fun x hx hh => by omega), ?_⟩
  rw [hz]
  exact (ho.off hO (fun x h1 h2 hh => by omega)).lower hx.size


end Go.Proofs.YtfmnkojjkjkdeaaGreatDoor
