/- Contracts: the reference's networks in which statements are given up; GiveUp. -/
import Derived.Test.YtfociflfeednfaaGv
namespace Go.Proofs.Ytfociflfeednfaa
set_option linter.unusedVariables false
set_option linter.unusedSimpArgs false
open Go.RowKit
attribute [local go_sem] cell_onto

set_option maxHeartbeats 1000000 in
theorem spec_l13All (w : World) : Calls Try.prog 73 #[] w (NewOwn 88 2 1 (spanCell allDays) w) := by
  go_enter Try.func73, Try.ntmps73
  go_wp2_with fail
  go_ret
  refine ⟨_, rfl, (by repeat (first | exact Ext.refl _ | assumption | refine Ext.alloc ?_ _ | refine Ext.drew ?_ | refine Ext.drewN ?_ _ | refine Ext.setCell ?_ (by first | (simp; done) | (simp; omega) | omega) _ | refine Ext.trans ?_ (by assumption))), ?_⟩
  have := World.ownsRow_lit (base := w.heap.size) (e := 88) (size := 2) w #[.int .i64 0, .int .i64 730499] 1 (Nat.le_refl _) (by unfold maxLen; omega) rfl
  exact this

set_option maxRecDepth 100000 in
set_option maxHeartbeats 8000000 in
theorem spec_l21Without (s k v : Value) (n : Net) (l : List Int) (w : World) (h : NetIn w s k n) (hl : Ints w 0 w.heap.size v l) (hok : NetOk n) :
    Calls Try.prog 50 #[.agg #[s, k], v] w (NewNet (giveN (fun i => HasI l i) n) w) := by
  obtain ⟨As, cs, rfl, hns, hcs⟩ := h.1.len
  obtain ⟨Ak, ck, rfl, hnk, hck⟩ := h.2.len
  have H := Lib.hid h
  have Hl := Lib.hid hl
  have Hok := Lib.hid hok
  have h8 := hok.1
  have h20 := hok.2.1
  clear h hok hl
  go_enter Try.func50, Try.ntmps50
  go_wp2_with fail
  go_loopg [6, 7] n.sets.length (fun q i u7 wr => ∃ (j : Nat) (sv : Value), j + q = n.sets.length ∧ i = .int .i64 j ∧ OwnSt 68 65 w (w.heap.size + 1 + 1 + 1 + 1) (.slice As n.sets.length cs) (.slice Ak n.links.length ck) (.slice (some ⟨w.heap.size + 1 + 1 + 1, 0, none⟩) 0 0) noNet (gvS (fun i => HasI l i) n.sets j) sv wr)
  case atStart =>
    refine ⟨0, .slice (some ⟨w.heap.size + 1 + 1, 0, none⟩) 0 0, by omega, rfl, (by repeat (first | exact Ext.refl _ | assumption | refine Ext.alloc ?_ _ | refine Ext.drew ?_ | refine Ext.drewN ?_ _ | refine Ext.setCell ?_ (by first | (simp; done) | (simp; omega) | omega) _ | refine Ext.trans ?_ (by assumption))), (Boxed.new w [.slice As n.sets.length cs, .slice Ak n.links.length ck] 33).ext (by repeat (first | exact Ext.refl _ | assumption | refine Ext.alloc ?_ _ | refine Ext.drew ?_ | refine Ext.drewN ?_ _ | refine Ext.setCell ?_ (by first | (simp; done) | (simp; omega) | omega) _ | refine Ext.trans ?_ (by assumption))), ?_, ?_, by omega, ?_, (fun g hg => by simp [Value.ownBlock] at hg; omega), SetsBy.of_empty (.inr ⟨rfl, rfl, ⟨_, rfl⟩, fun g hg => by simp [Value.ownBlock] at hg; simp; omega⟩)⟩
    · have := (Boxed.new (w.alloc (.cells #[.slice As n.sets.length cs, .slice Ak n.links.length ck] 33)) [.slice none 0 0, .slice none 0 0] 33).ext (((((Ext.refl _).alloc (.cells #[] 65)).alloc (.cells #[] 68))).alloc (.cells #[.slice (some ⟨w.heap.size + 1 + 1, 0, none⟩) 0 0, .slice (some ⟨w.heap.size + 1 + 1 + 1, 0, none⟩) 0 0] 33))
      rw [World.size_alloc] at this
      exact this
    · have := Boxed.new ((((w.alloc (.cells #[.slice As n.sets.length cs, .slice Ak n.links.length ck] 33)).alloc (.cells #[.slice none 0 0, .slice none 0 0] 33)).alloc (.cells #[] 65)).alloc (.cells #[] 68)) [.slice (some ⟨w.heap.size + 1 + 1, 0, none⟩) 0 0, .slice (some ⟨w.heap.size + 1 + 1 + 1, 0, none⟩) 0 0] 33
      rw [World.size_alloc, World.size_alloc, World.size_alloc, World.size_alloc] at this
      exact this
    · have := row_ext (World.ownsRow_made (base := w.heap.size + 2) (e := 68) (size := 4) (((w.alloc (.cells #[.slice As n.sets.length cs, .slice Ak n.links.length ck] 33)).alloc (.cells #[.slice none 0 0, .slice none 0 0] 33)).alloc (.cells #[] 65)) #[] 0 (by simp) (Nat.zero_le _) rfl) ((Ext.refl _).alloc (.cells #[.slice (some ⟨w.heap.size + 1 + 1, 0, none⟩) 0 0, .slice (some ⟨w.heap.size + 1 + 1 + 1, 0, none⟩) 0 0] 33))
      rw [World.size_alloc, World.size_alloc, World.size_alloc] at this
      simpa [cellsOf, noNet] using this
  case round =>
    obtain ⟨j, sv, hj, rfl, hx, hbb, hrb, hob, hgo, hk, hkg, f, hsf⟩ := hrel
    have Hkg := Lib.hid hkg
    clear hkg
    have hlt0 : (gvS (fun i => HasI l i) n.sets j).length ≤ 1048576 := by rw [gvS_len]; omega
    by_cases hlt : j < n.sets.length
    · obtain ⟨b, off, u, rfl, _, hb, h1, h2⟩ := (H.out.1.ext hx (Nat.le_refl _)).at_ hlt
      have H2 := Lib.hid h2
      have hb := hbb; have hb0 := hb.at0; have hb1 := hb.at1; have hbg := hb.1; have Hhb := Lib.hid hb; clear hb
      have Hrbb := Lib.hid hrb
      have Hobb := Lib.hid hob
      have Hkk := Lib.hid hk
      have Hsff := Lib.hid hsf
      have hwr := hx.size
      have hbr : b < wr.heap.size := by omega
      have hsl := setLen Hok.out hlt
      clear h2 hbb hrb hob hk hsf
      go_wp2_with (at_builtin; refine wpList_append_row _ rfl _ _ 65 rfl wr.heap.size 88 2 16 Try.underlying65 (by kernel_rfl) (by omega) _ 0 (setAt n.sets j).length [] rfl (.inl (World.ownsRow_made wr #[] 0 (Nat.le_refl _) (Nat.zero_le _) rfl)) (.inl (World.ownsRow_made wr #[] 0 (Nat.le_refl _) (Nat.zero_le _) rfl)) 0 w.heap.size u (spanCell (setAt n.sets j)) rfl (H2.out.ext (by repeat (first | exact Ext.refl _ | assumption | refine Ext.alloc ?_ _ | refine Ext.drew ?_ | refine Ext.drewN ?_ _ | refine Ext.setCell ?_ (by first | (simp; done) | (simp; omega) | omega) _ | refine Ext.trans ?_ (by assumption))) hwr) (fun i _ => spanCell_one _ i) (by unfold maxLen; omega) (by omega) (by simp) ?_; intro uv w1 hu hput1; obtain ⟨Au, cu, rfl⟩ := ownsRow_len hu; simp only [Nat.zero_add, List.nil_append] at hu; have hx1 : Ext wr w1 := hput1.ext (by repeat (first | exact Ext.refl _ | assumption | refine Ext.alloc ?_ _ | refine Ext.drew ?_ | refine Ext.drewN ?_ _ | refine Ext.setCell ?_ (by first | (simp; done) | (simp; omega) | omega) _ | refine Ext.trans ?_ (by assumption))) (Nat.le_refl _); have Hu := Lib.hid hu; clear hu hput1)
      have hxw1 : Ext w w1 := hx.trans hx1
      refine Calls.mono (spec_l01Has v l j _ (Hl.out.up hxw1)) ?_
      rintro e w2 ⟨rfl, hx2⟩
      have hx12 : Ext wr w2 := hx1.trans hx2
      have hxw2 : Ext w w2 := hx.trans hx12
      have hzr := hx12.size
      clear hb0 hb1 hbg h1
      by_cases hi : HasI l j
      · have Hi := Lib.hid hi
        have hq := B_true hi
        rw [hq]
        clear hq hi
        go_wp2_with fail
        refine Calls.mono (spec_l13All _) ?_
        rintro e w3 ⟨uv, rfl, hx3, hu3⟩
        obtain ⟨Au3, cu3, rfl⟩ := ownsRow_len hu3
        have Hu3 := Lib.hid hu3
        have hx13 : Ext wr w3 := hx12.trans hx3
        have hxw3 : Ext w w3 := hx.trans hx13
        clear hu3
        have ob := Hobb.out.ext hx13; have ob0 := ob.at0; have ob1 := ob.at1; have obg := ob.1; have Hob := Lib.hid ob; clear ob
        have of0 := Hob.out.fz 0 (by simp)
        have hz3 := hxw3.size
        go_wp2_with (at_builtin; refine wpList_append_row _ rfl _ _ 30 rfl (w.heap.size + 1 + 1 + 1 + 1 + 1) 65 1 24 Try.underlying30 (by kernel_rfl) (by omega) sv (gvS (fun i => HasI l i) n.sets j).length 1 _ rfl (Hsff.out.ext (by repeat (first | exact Ext.refl _ | assumption | refine Ext.alloc ?_ _ | refine Ext.drew ?_ | refine Ext.drewN ?_ _ | refine Ext.setCell ?_ (by first | (simp; done) | (simp; omega) | omega) _ | refine Ext.trans ?_ (by assumption)))).1 (.inr (by omega)) 0 _ _ (fun _ => .slice Au3 1 cu3) rfl ((Boxed.new w3 [.slice Au3 1 cu3] 65).row1) (fun _ _ => rfl) (by unfold maxLen; omega) (by omega) (by simp; omega) ?_; intro v4 w4 hown4 hput4; obtain ⟨Av4, cv4, rfl⟩ := ownsRow_len hown4; have hob4 := Boxed.off (Hob.out.ext (show Ext w3 (w3.alloc (.cells #[.slice Au3 1 cu3] 65)) from (by repeat (first | exact Ext.refl _ | assumption | refine Ext.alloc ?_ _ | refine Ext.drew ?_ | refine Ext.drewN ?_ _ | refine Ext.setCell ?_ (by first | (simp; done) | (simp; omega) | omega) _ | refine Ext.trans ?_ (by assumption))))) hput4.1 (fun hh => by have := hh.1; omega); have ho4 := hob4.at0; have ho4f := hob4.fz 0 (by simp); have Hst := Lib.hid (OwnSt.push (s := allDays) hx Hhb.out Hrbb.out Hobb.out hgo Hkk.out Hkg.out Hsff.out (show Ext wr (w3.alloc (.cells #[.slice Au3 1 cu3] 65)) from (by repeat (first | exact Ext.refl _ | assumption | refine Ext.alloc ?_ _ | refine Ext.drew ?_ | refine Ext.drewN ?_ _ | refine Ext.setCell ?_ (by first | (simp; done) | (simp; omega) | omega) _ | refine Ext.trans ?_ (by assumption)))) (row_ext Hu3.out ((Ext.refl _).alloc _)) hx12.size hput4 hown4); clear hown4 hput4 hob4)
        go_roundg (n.sets.length - (j + 1))
        case measure => omega
        case rel => exact ⟨j + 1, _, by omega, by go_num, by rw [gvS_yes Hi.out]; exact Hst.out⟩
      · have Hi := Lib.hid hi
        have hq := B_false hi
        rw [hq]
        clear hq hi
        have ob := Hobb.out.ext hx12; have ob0 := ob.at0; have ob1 := ob.at1; have obg := ob.1; have Hob := Lib.hid ob; clear ob
        have of0 := Hob.out.fz 0 (by simp)
        have hz3 := hxw2.size
        go_wp2_with (at_builtin; refine wpList_append_row _ rfl _ _ 30 rfl (w.heap.size + 1 + 1 + 1 + 1 + 1) 65 1 24 Try.underlying30 (by kernel_rfl) (by omega) sv (gvS (fun i => HasI l i) n.sets j).length 1 _ rfl (Hsff.out.ext (by repeat (first | exact Ext.refl _ | assumption | refine Ext.alloc ?_ _ | refine Ext.drew ?_ | refine Ext.drewN ?_ _ | refine Ext.setCell ?_ (by first | (simp; done) | (simp; omega) | omega) _ | refine Ext.trans ?_ (by assumption)))).1 (.inr (by omega)) 0 _ _ (fun _ => .slice Au (setAt n.sets j).length cu) rfl ((Boxed.new w2 [.slice Au (setAt n.sets j).length cu] 65).row1) (fun _ _ => rfl) (by unfold maxLen; omega) (by omega) (by simp; omega) ?_; intro v4 w4 hown4 hput4; obtain ⟨Av4, cv4, rfl⟩ := ownsRow_len hown4; have hob4 := Boxed.off (Hob.out.ext (show Ext w2 (w2.alloc (.cells #[.slice Au (setAt n.sets j).length cu] 65)) from (by repeat (first | exact Ext.refl _ | assumption | refine Ext.alloc ?_ _ | refine Ext.drew ?_ | refine Ext.drewN ?_ _ | refine Ext.setCell ?_ (by first | (simp; done) | (simp; omega) | omega) _ | refine Ext.trans ?_ (by assumption))))) hput4.1 (fun hh => by have := hh.1; omega); have ho4 := hob4.at0; have ho4f := hob4.fz 0 (by simp); have Hst := Lib.hid (OwnSt.push (s := setAt n.sets j) hx Hhb.out Hrbb.out Hobb.out hgo Hkk.out Hkg.out Hsff.out (show Ext wr (w2.alloc (.cells #[.slice Au (setAt n.sets j).length cu] 65)) from (by repeat (first | exact Ext.refl _ | assumption | refine Ext.alloc ?_ _ | refine Ext.drew ?_ | refine Ext.drewN ?_ _ | refine Ext.setCell ?_ (by first | (simp; done) | (simp; omega) | omega) _ | refine Ext.trans ?_ (by assumption)))) (row_ext (row_ext Hu.out hx2) ((Ext.refl _).alloc _)) (Nat.le_refl _) hput4 hown4); clear hown4 hput4 hob4)
        go_roundg (n.sets.length - (j + 1))
        case measure => omega
        case rel => exact ⟨j + 1, _, by omega, by go_num, by rw [gvS_no (is := fun i => HasI l i) Hi.out]; exact Hst.out⟩
    · obtain rfl : j = n.sets.length := by omega
      have hst := GvSt.start (TL := 68) (TS := 65) (sets := gvS (fun i => HasI l i) n.sets n.sets.length) (show OwnSt 68 65 w (w.heap.size + 1 + 1 + 1 + 1) (.slice As n.sets.length cs) (.slice Ak n.links.length ck) (.slice (some ⟨w.heap.size + 1 + 1 + 1, 0, none⟩) 0 0) noNet (gvS (fun i => HasI l i) n.sets n.sets.length) sv wr from ⟨hx, hbb, hrb, hob, hgo, hk, Hkg.out, f, hsf⟩) ⟨_, rfl⟩
      obtain ⟨As2, cs2, rfl⟩ := hsf.1.len
      have Hst := Lib.hid hst
      have hb := hbb; have hb0 := hb.at0; have hb1 := hb.at1; have hbg := hb.1; have Hhb := Lib.hid hb; clear hb
      clear hbb hrb hob hk Hkg hsf hst
      go_wp2_with fail
      obtain ⟨wz, hwz⟩ : ∃ wz : World, wz = wr := ⟨_, rfl⟩
      rw [← hwz] at Hst
      have Hst' : Hid (GvSt 68 w (w.heap.size + 1 + 1 + 1 + 1) wz.heap.size (.slice As n.sets.length cs) (.slice Ak n.links.length ck) (gvS (fun i => HasI l i) n.sets n.sets.length) [] (.slice As2 (gvS (fun i => HasI l i) n.sets n.sets.length).length cs2) (.slice (some ⟨w.heap.size + 1 + 1 + 1, 0, none⟩) 0 0) wr) := Lib.hid (hwz ▸ Hst.out)
      clear Hst hwz hb0 hb1 hbg Hhb
      go_loopg [8] n.links.length (fun q i wq => ∃ (j : Nat) (kv : Value), j + q = n.links.length ∧ i = .int .i64 j ∧ GvSt 68 w (w.heap.size + 1 + 1 + 1 + 1) wz.heap.size (.slice As n.sets.length cs) (.slice Ak n.links.length ck) (gvS (fun i => HasI l i) n.sets n.sets.length) (gvL (fun i => HasI l i) n.sets.length n.links j) (.slice As2 (gvS (fun i => HasI l i) n.sets n.sets.length).length cs2) kv wq)
      case atStart => exact ⟨0, _, by omega, rfl, Hst'.out⟩
      clear Hst' hx
      case round =>
        obtain ⟨j, kv, hj, rfl, hst⟩ := hrel
        obtain ⟨Akv, ckv, rfl⟩ := hst.2.2.2.2.2.2.2.2.len
        have hx := hst.1
        have Hst := Lib.hid hst
        have hll := gvL_len (fun i => HasI l i) n.sets.length n.links j
        clear hst
        have hb := Hst.out.2.1; have hb0 := hb.at0; have hb1 := hb.at1; have hbg := hb.1; have Hhb := Lib.hid hb; clear hb
        by_cases hlt : j < n.links.length
        · go_wp2_with fail
          refine Calls.mono (spec_l01Has v l ((n.sets.length : Int) + (j : Int)) _ (Hl.out.up hx)) ?_
          rintro e w2 ⟨rfl, hx2⟩
          have hxw2 : Ext w w2 := hx.trans hx2
          have Hst2 := Lib.hid (Hst.out.ext hx2)
          clear Hst hb0 hb1 hbg Hhb hx
          by_cases hi : HasI l (((n.sets.length + j : Nat) : Int))
          · have Hi := Lib.hid hi
            have hq := B_true (show HasI l ((n.sets.length : Int) + (j : Int)) by rw [Int.natCast_add] at hi; exact hi)
            rw [hq]
            clear hq hi
            go_wp2_with fail
            go_roundg (n.links.length - (j + 1))
            case measure => omega
            case rel => exact ⟨j + 1, _, by omega, by go_num, by rw [gvL_yes (is := fun i => HasI l i) Hi.out]; exact Hst2.out⟩
          · have Hi := Lib.hid hi
            have hq := B_false (show ¬ HasI l ((n.sets.length : Int) + (j : Int)) by rw [Int.natCast_add] at hi; exact hi)
            rw [hq]
            clear hq hi
            obtain ⟨b, off, rfl, _, hb, h1, h2, h3, h4⟩ := (H.out.2.ext hxw2 (Nat.le_refl _)).at_ hlt
            have hb := Hst2.out.2.1; have hb0 := hb.at0; have hb1 := hb.at1; have hbg := hb.1; have Hhb := Lib.hid hb; clear hb
            have ob := Hst2.out.2.2.2.1; have ob0 := ob.at0; have ob1 := ob.at1; have obg := ob.1; have Hob := Lib.hid ob; clear ob
            have of1 := Hob.out.fz 1 (by simp)
            have hz1 := Hst2.out.2.2.2.2.2.2.1
            have hz2 := Hst2.out.2.2.2.2.2.1
            have hbr : b < w2.heap.size := by have := hxw2.size; omega
            have hjl : (j : Int) < (n.links.length : Int) := by omega
            go_wp2_with fail
            go_region_law (first
              | (refine step_append_row rfl (.tmp 52) (.tmp 58) 31 rfl wz.heap.size 68 4 32 Try.underlying31 (by kernel_rfl) (by omega) _ (gvL (fun i => HasI l i) n.sets.length n.links j).length 1 _ rfl (Hst2.out.2.2.2.2.2.2.2.2.ext (by repeat (first | exact Ext.refl _ | assumption | refine Ext.alloc ?_ _ | refine Ext.drew ?_ | refine Ext.drewN ?_ _ | refine Ext.setCell ?_ (by first | (simp; done) | (simp; omega) | omega) _ | refine Ext.trans ?_ (by assumption)))) (.inr (by omega)) 0 _ _ (linkCell [lkAt n.links j]) rfl ((Boxed.new w2.drew [.int .i64 (lkAt n.links j).be, .int .i64 (lkAt n.links j).af, .int .i64 (lkAt n.links j).le, .int .i64 (lkAt n.links j).mo] 68).row rfl (lk_cells _)) (fun i _ => linkCell_one _ i) (by unfold maxLen; omega) (by omega) (by simp; omega) ?_; intro k3 w3 hown3 hput3; obtain ⟨Ak3, ck3, rfl⟩ := ownsRow_len hown3; have hx2d : Ext w2 (w2.drew.alloc (.cells #[.int .i64 (lkAt n.links j).be, .int .i64 (lkAt n.links j).af, .int .i64 (lkAt n.links j).le, .int .i64 (lkAt n.links j).mo] 68)) := (by repeat (first | exact Ext.refl _ | assumption | refine Ext.alloc ?_ _ | refine Ext.drew ?_ | refine Ext.drewN ?_ _ | refine Ext.setCell ?_ (by first | (simp; done) | (simp; omega) | omega) _ | refine Ext.trans ?_ (by assumption))); have hob3 := Boxed.off (Hob.out.ext hx2d) hput3.1 (fun hh => by have := hh.1; omega); have ho3 := hob3.at1; have ho3f := hob3.fz 1 (by simp); have Hst3 := Lib.hid (Hst2.out.push (l := lkAt n.links j) hx2d hput3 hown3); clear hown3 hput3 hob3))
            all_goals
              go_wp2_with fail
              go_roundg (n.links.length - (j + 1))
              case measure => omega
              case rel => exact ⟨j + 1, _, by omega, by go_num, by rw [gvL_no (is := fun i => HasI l i) Hi.out]; exact Hst3.out⟩
        · obtain rfl : j = n.links.length := by omega
          have ob := Hst.out.2.2.2.1; have ob0 := ob.at0; have ob1 := ob.at1; have obg := ob.1; have Hob := Lib.hid ob; clear ob
          have rb := Hst.out.2.2.1; have rb0 := rb.at0; have rb1 := rb.at1; have rbg := rb.1; have Hrb := Lib.hid rb; clear rb
          have rf0 := Hrb.out.fz 0 (by simp)
          have rf1 := Hrb.out.fz 1 (by simp)
          go_wp2_with fail
          refine bodyPost_ret (v := .agg #[.slice As2 (gvS (fun i => HasI l i) n.sets n.sets.length).length cs2, .slice Akv (gvL (fun i => HasI l i) n.sets.length n.links n.links.length).length ckv]) (by simp [results, Try.results50, go_sem, *]) rfl ?_
          exact Hst.out.done
end Go.Proofs.Ytfociflfeednfaa
