/- Contracts: the reference's SmallestRepair. -/
import Derived.Test.YtfajmlkiidnhlaaGreatQ3Ic
namespace Go.Proofs.YtfajmlkiidnhlaaGreat
set_option linter.unusedVariables false
set_option linter.unusedSimpArgs false
open Go.RowKit
attribute [local go_sem] cell_onto

def Sz1 (n : Net) : Prop := ∃ x, 0 ≤ x ∧ x < allS n ∧ repB n ([] ++ [(x : Int)]) = true
noncomputable def Sz1L (n : Net) : List Int := [] ++ [(firstP (fun x => repB n ([] ++ [(x : Int)]) = true) (allS n) 0 : Int)]
def Sz2P (n : Net) (x : Nat) : Prop := ∃ y, x + 1 ≤ y ∧ y < allS n ∧ repB n ([(x : Int)] ++ [(y : Int)]) = true
noncomputable def Sz2R (n : Net) (x : Nat) : List Int := [(x : Int)] ++ [(firstP (fun y => repB n ([(x : Int)] ++ [(y : Int)]) = true) (allS n) (x + 1) : Int)]
def Sz2 (n : Net) : Prop := ∃ x, 0 ≤ x ∧ x < allS n ∧ Sz2P n x
noncomputable def Sz2L (n : Net) : List Int := Sz2R n (firstP (Sz2P n) (allS n) 0)
theorem sz0 (s k : Value) (n : Net) (hok : NetOk n) (hbl : blN n ≤ 256) : SeOk s k n 0 [] (Sol n) [] := by
  have h := search_0 s k n [] hok hbl
  rwa [repB_nil, show (B (Sol n) = true) = Sol n from propext B_iff] at h
theorem sz1 (s k : Value) (n : Net) (hok : NetOk n) (hbl : blN n ≤ 256) : SeOk s k n 1 [] (Sz1 n) (Sz1L n) :=
  search_more s k n 0 [] 0 (fun x => repB n ([] ++ [(x : Int)]) = true) (fun x => [] ++ [(x : Int)]) hok (by omega) (.inl ⟨rfl, rfl⟩) (by omega) (fun x _ _ => search_0 s k n ([] ++ [(x : Int)]) hok hbl)
theorem sz2 (s k : Value) (n : Net) (hok : NetOk n) (hbl : blN n ≤ 256) : SeOk s k n 2 [] (Sz2 n) (Sz2L n) :=
  search_more s k n 1 [] 0 (Sz2P n) (Sz2R n) hok (by omega) (.inl ⟨rfl, rfl⟩) (by omega) (fun x _ hx =>
    search_more s k n 0 [(x : Int)] (x + 1) (fun y => repB n ([(x : Int)] ++ [(y : Int)]) = true) (fun y => [(x : Int)] ++ [(y : Int)]) hok (by omega) (.inr ⟨x, rfl, rfl⟩) (by omega) (fun y _ _ => search_0 s k n ([(x : Int)] ++ [(y : Int)]) hok hbl))
theorem sz1_yes {n : Net} (h : blE n [] = 0) (h2 : ¬ Sol n) (h3 : Sz1 n) : smE n = 0 ∧ smL n = Sz1L n := by
  obtain ⟨x, _, hx, hr⟩ := h3
  obtain ⟨i, hi, h4, h5⟩ := nat_least (p := Rep1 n) (allS n) ⟨x, hx, hr⟩
  have e : firstP (fun x => repB n ([] ++ [(x : Int)]) = true) (allS n) 0 = i := firstP_from (Nat.zero_le _) hi (fun k _ hk => h5 k hk) h4
  obtain ⟨a, b⟩ := sm_one h h2 hi h4 h5
  refine ⟨a, ?_⟩
  unfold Sz1L
  rw [b, e]
  rfl
theorem sz1_no {n : Net} (h : ¬ Sz1 n) : ∀ k, k < allS n → ¬ Rep1 n k := fun k hk hr => h ⟨k, Nat.zero_le _, hk, hr⟩
theorem sz2P_iff (n : Net) (x : Nat) : Sz2P n x ↔ RepP n x :=
  ⟨fun ⟨y, h1, h2, h3⟩ => ⟨y, by omega, h2, h3⟩, fun ⟨y, h1, h2, h3⟩ => ⟨y, by omega, h2, h3⟩⟩
theorem sz2_yes {n : Net} (h : blE n [] = 0) (h2 : ¬ Sol n) (h1 : ¬ Sz1 n) (h3 : Sz2 n) : smE n = 0 ∧ smL n = Sz2L n := by
  obtain ⟨x, _, hx, hr⟩ := h3
  obtain ⟨i, hi, h4, h5⟩ := nat_least (p := RepP n) (allS n) ⟨x, hx, (sz2P_iff n x).1 hr⟩
  obtain ⟨y, hy1, hy2, hy3⟩ := h4
  obtain ⟨t, ht, ⟨h6, h7⟩, h8⟩ := nat_least (p := fun t => i < t ∧ Rep2 n i t) (allS n) ⟨y, hy2, hy1, hy3⟩
  have e : firstP (Sz2P n) (allS n) 0 = i := firstP_from (Nat.zero_le _) hi (fun k _ hk hh => h5 k hk ((sz2P_iff n k).1 hh)) ((sz2P_iff n i).2 ⟨y, hy1, hy2, hy3⟩)
  have e2 : firstP (fun y => repB n ([(i : Int)] ++ [(y : Int)]) = true) (allS n) (i + 1) = t := firstP_from (by omega) ht (fun k hk1 hk2 hh => h8 k hk2 ⟨by omega, hh⟩) h7
  obtain ⟨a, b⟩ := sm_two h h2 (sz1_no h1) h6 ht h7 h5 (fun k hk1 hk2 hh => h8 k hk2 ⟨hk1, hh⟩)
  refine ⟨a, ?_⟩
  unfold Sz2L Sz2R
  rw [b, e, e2]
  rfl
theorem sz2_no {n : Net} (h : ¬ Sz2 n) : ∀ k, k < allS n → ¬ RepP n k := fun k hk hr => h ⟨k, Nat.zero_le _, hk, (sz2P_iff n k).2 hr⟩
theorem nilOwn2 (w : World) (a : Addr) (b : Nat) : Own w b 1 (.slice (some a) 0 0) ([] : List Int).length (intCell []) := ⟨Nat.zero_le _, _, 0, rfl, Nat.le_refl _, fun h => absurd h (by simp)⟩
set_option maxHeartbeats 8000000 in
theorem spec_SmallestRepair (s k : Value) (n : Net) (w : World) (h : NetIn w s k n) : Calls Tryz.prog 12 #[.agg #[s, k]] w (NewInts2 (smL n) (smE n) w) := by
  have H := Lib.hid h
  clear h
  go_enter Tryz.func12, Tryz.ntmps12
  go_wp2_with fail
  refine Calls.mono (spec_l21Code s k _ n [] _ (H.out.up (by repeat (first | exact Ext.refl _ | assumption | refine Ext.alloc ?_ _ | refine Ext.drew ?_ | refine Ext.drewN ?_ _ | refine Ext.setCell ?_ (by first | (simp; done) | (simp; omega) | omega) _ | refine Ext.trans ?_ (by assumption)))) (nilInts _)) ?_
  rintro e w1 ⟨rfl, hx1⟩
  have hb := (Boxed.new w [s, k] 27).ext hx1; have hb0 := hb.at0; have hb1 := hb.at1; have hbg := hb.1; have Hhb := Lib.hid hb; clear hb
  have hx : Ext w w1 := (by repeat (first | exact Ext.refl _ | assumption | refine Ext.alloc ?_ _ | refine Ext.drew ?_ | refine Ext.drewN ?_ _ | refine Ext.setCell ?_ (by first | (simp; done) | (simp; omega) | omega) _ | refine Ext.trans ?_ (by assumption)))
  have Hb1 : Hid (Boxed w1 w.heap.size [s, k]) := Lib.hid Hhb.out
  clear hx1
  by_cases hc : blE n [] = 0
  · have Hc := Lib.hid hc
    have Hok := Lib.hid (blE_zero hc).1
    have Hbl := Lib.hid (blE_zero hc).2.2
    have hd : (blE n [] != 0) = false := by rw [hc]; rfl
    clear hc
    go_wp2_with fail
    go_loopg [5, 6, 7] 3 (fun q i u6 u7 wr => ∃ j : Nat, j + q = 3 ∧ i = .int .i64 j ∧ Ext w wr ∧ Boxed wr w.heap.size [s, k] ∧ Hid ((0 < j → ¬ Sol n) ∧ (1 < j → ¬ Sz1 n) ∧ (2 < j → ¬ Sz2 n)))
    case atStart => exact ⟨0, by omega, rfl, (by repeat (first | exact Ext.refl _ | assumption | refine Ext.alloc ?_ _ | refine Ext.drew ?_ | refine Ext.drewN ?_ _ | refine Ext.setCell ?_ (by first | (simp; done) | (simp; omega) | omega) _ | refine Ext.trans ?_ (by assumption))), Hb1.out.ext (by repeat (first | exact Ext.refl _ | assumption | refine Ext.alloc ?_ _ | refine Ext.drew ?_ | refine Ext.drewN ?_ _ | refine Ext.setCell ?_ (by first | (simp; done) | (simp; omega) | omega) _ | refine Ext.trans ?_ (by assumption))), Lib.hid ⟨fun h => absurd h (by omega), fun h => absurd h (by omega), fun h => absurd h (by omega)⟩⟩
    clear hb0 hb1 hbg Hhb Hb1
    case round =>
      obtain ⟨j, hj, rfl, hxr, hnb, Hno⟩ := hrel
      have nb := hnb; have nb0 := nb.at0; have nb1 := nb.at1; have nbg := nb.1; have Hnb := Lib.hid nb; clear nb
      have hzr := hxr.size
      clear hnb
      have Hnil : Hid (∀ (P : Prop) (L : List Int), SeOk s k n j [] P L → Calls Tryz.prog 53 #[.agg #[s, k], .slice (some ⟨wr.heap.size, 0, none⟩) 0 0, .int .i64 j] (wr.alloc (.cells #[] 2)) (SePost P L w.heap.size (wr.alloc (.cells #[] 2)))) := Lib.hid (fun P L hh => hh _ 0 w.heap.size _ (H.out.up (by repeat (first | exact Ext.refl _ | assumption | refine Ext.alloc ?_ _ | refine Ext.drew ?_ | refine Ext.drewN ?_ _ | refine Ext.setCell ?_ (by first | (simp; done) | (simp; omega) | omega) _ | refine Ext.trans ?_ (by assumption)))) (nilOwn2 _ _ _) (fun h => absurd h (by simp)) (by simp; omega))
      have hj3 : j = 0 ∨ j = 1 ∨ j = 2 ∨ j = 3 := by omega
      rcases hj3 with rfl | rfl | rfl | rfl
      · go_wp2_with fail
        refine Calls.mono (Hnil.out (Sol n) [] (sz0 s k n Hok.out Hbl.out)) ?_
        rintro e w2 ⟨v, rfl, hx2, hv⟩
        have Hv2 := Lib.hid hv
        have hxw2 : Ext w w2 := (by repeat (first | exact Ext.refl _ | assumption | refine Ext.alloc ?_ _ | refine Ext.drew ?_ | refine Ext.drewN ?_ _ | refine Ext.setCell ?_ (by first | (simp; done) | (simp; omega) | omega) _ | refine Ext.trans ?_ (by assumption)))
        have Hb2 := Lib.hid (Hnb.out.ext (((Ext.refl wr).alloc _).trans hx2))
        clear hv nb0 nb1 nbg Hnb hx2
        by_cases hp : (Sol n)
        · have Hy := Lib.hid (sm_sol Hc.out hp)
          obtain ⟨g, ho, hg⟩ := Hv2.out hp
          have Ho := Lib.hid ho
          have Hg := Lib.hid hg
          rw [B_true hp]
          clear hp ho hg
          go_wp2_with fail
          go_ret2
          rw [Hy.out.1, Hy.out.2]
          exact ⟨_, g, rfl, (by repeat (first | exact Ext.refl _ | assumption | refine Ext.alloc ?_ _ | refine Ext.drew ?_ | refine Ext.drewN ?_ _ | refine Ext.setCell ?_ (by first | (simp; done) | (simp; omega) | omega) _ | refine Ext.trans ?_ (by assumption))), Hg.out, Ho.out⟩
        · have Hn := Lib.hid (show ((0 < 1 → ¬ Sol n) ∧ (1 < 1 → ¬ Sz1 n) ∧ (2 < 1 → ¬ Sz2 n)) from ⟨fun _ => hp, fun h => absurd h (by omega), fun h => absurd h (by omega)⟩)
          rw [B_false hp]
          clear hp
          go_wp2_with fail
          go_roundg 2
          case measure => omega
          case rel => exact ⟨1, by omega, by go_num, (by repeat (first | exact Ext.refl _ | assumption | refine Ext.alloc ?_ _ | refine Ext.drew ?_ | refine Ext.drewN ?_ _ | refine Ext.setCell ?_ (by first | (simp; done) | (simp; omega) | omega) _ | refine Ext.trans ?_ (by assumption))), Hb2.out, Hn⟩
      · go_wp2_with fail
        refine Calls.mono (Hnil.out (Sz1 n) (Sz1L n) (sz1 s k n Hok.out Hbl.out)) ?_
        rintro e w2 ⟨v, rfl, hx2, hv⟩
        have Hv2 := Lib.hid hv
        have hxw2 : Ext w w2 := (by repeat (first | exact Ext.refl _ | assumption | refine Ext.alloc ?_ _ | refine Ext.drew ?_ | refine Ext.drewN ?_ _ | refine Ext.setCell ?_ (by first | (simp; done) | (simp; omega) | omega) _ | refine Ext.trans ?_ (by assumption)))
        have Hb2 := Lib.hid (Hnb.out.ext (((Ext.refl wr).alloc _).trans hx2))
        clear hv nb0 nb1 nbg Hnb hx2
        by_cases hp : (Sz1 n)
        · have Hy := Lib.hid (sz1_yes Hc.out (Hno.out.1 (by omega)) hp)
          obtain ⟨g, ho, hg⟩ := Hv2.out hp
          have Ho := Lib.hid ho
          have Hg := Lib.hid hg
          rw [B_true hp]
          clear hp ho hg
          go_wp2_with fail
          go_ret2
          rw [Hy.out.1, Hy.out.2]
          exact ⟨_, g, rfl, (by repeat (first | exact Ext.refl _ | assumption | refine Ext.alloc ?_ _ | refine Ext.drew ?_ | refine Ext.drewN ?_ _ | refine Ext.setCell ?_ (by first | (simp; done) | (simp; omega) | omega) _ | refine Ext.trans ?_ (by assumption))), Hg.out, Ho.out⟩
        · have Hn := Lib.hid (show ((0 < 2 → ¬ Sol n) ∧ (1 < 2 → ¬ Sz1 n) ∧ (2 < 2 → ¬ Sz2 n)) from ⟨fun _ => Hno.out.1 (by omega), fun _ => hp, fun h => absurd h (by omega)⟩)
          rw [B_false hp]
          clear hp
          go_wp2_with fail
          go_roundg 1
          case measure => omega
          case rel => exact ⟨2, by omega, by go_num, (by repeat (first | exact Ext.refl _ | assumption | refine Ext.alloc ?_ _ | refine Ext.drew ?_ | refine Ext.drewN ?_ _ | refine Ext.setCell ?_ (by first | (simp; done) | (simp; omega) | omega) _ | refine Ext.trans ?_ (by assumption))), Hb2.out, Hn⟩
      · go_wp2_with fail
        refine Calls.mono (Hnil.out (Sz2 n) (Sz2L n) (sz2 s k n Hok.out Hbl.out)) ?_
        rintro e w2 ⟨v, rfl, hx2, hv⟩
        have Hv2 := Lib.hid hv
        have hxw2 : Ext w w2 := (by repeat (first | exact Ext.refl _ | assumption | refine Ext.alloc ?_ _ | refine Ext.drew ?_ | refine Ext.drewN ?_ _ | refine Ext.setCell ?_ (by first | (simp; done) | (simp; omega) | omega) _ | refine Ext.trans ?_ (by assumption)))
        have Hb2 := Lib.hid (Hnb.out.ext (((Ext.refl wr).alloc _).trans hx2))
        clear hv nb0 nb1 nbg Hnb hx2
        by_cases hp : (Sz2 n)
        · have Hy := Lib.hid (sz2_yes Hc.out (Hno.out.1 (by omega)) (Hno.out.2.1 (by omega)) hp)
          obtain ⟨g, ho, hg⟩ := Hv2.out hp
          have Ho := Lib.hid ho
          have Hg := Lib.hid hg
          rw [B_true hp]
          clear hp ho hg
          go_wp2_with fail
          go_ret2
          rw [Hy.out.1, Hy.out.2]
          exact ⟨_, g, rfl, (by repeat (first | exact Ext.refl _ | assumption | refine Ext.alloc ?_ _ | refine Ext.drew ?_ | refine Ext.drewN ?_ _ | refine Ext.setCell ?_ (by first | (simp; done) | (simp; omega) | omega) _ | refine Ext.trans ?_ (by assumption))), Hg.out, Ho.out⟩
        · have Hn := Lib.hid (show ((0 < 3 → ¬ Sol n) ∧ (1 < 3 → ¬ Sz1 n) ∧ (2 < 3 → ¬ Sz2 n)) from ⟨fun _ => Hno.out.1 (by omega), fun _ => Hno.out.2.1 (by omega), fun _ => hp⟩)
          rw [B_false hp]
          clear hp
          go_wp2_with fail
          go_roundg 0
          case measure => omega
          case rel => exact ⟨3, by omega, by go_num, (by repeat (first | exact Ext.refl _ | assumption | refine Ext.alloc ?_ _ | refine Ext.drew ?_ | refine Ext.drewN ?_ _ | refine Ext.setCell ?_ (by first | (simp; done) | (simp; omega) | omega) _ | refine Ext.trans ?_ (by assumption))), Hb2.out, Hn⟩
      · have Hv := Lib.hid (sm_none Hc.out (Hno.out.1 (by omega)) (sz1_no (Hno.out.2.1 (by omega))) (sz2_no (Hno.out.2.2 (by omega))))
        go_wp2_with fail
        go_ret2
        rw [Hv.out.1, Hv.out.2]
        exact NewInts2.nil 4 (by repeat (first | exact Ext.refl _ | assumption | refine Ext.alloc ?_ _ | refine Ext.drew ?_ | refine Ext.drewN ?_ _ | refine Ext.setCell ?_ (by first | (simp; done) | (simp; omega) | omega) _ | refine Ext.trans ?_ (by assumption)))
  · have Hc := Lib.hid (sm_code hc)
    have hd : (blE n [] != 0) = true := by simp [hc]
    clear hc
    go_wp2_with fail
    go_ret2
    rw [Hc.out.1, Hc.out.2]
    exact NewInts2.nil _ (by repeat (first | exact Ext.refl _ | assumption | refine Ext.alloc ?_ _ | refine Ext.drew ?_ | refine Ext.drewN ?_ _ | refine Ext.setCell ?_ (by first | (simp; done) | (simp; omega) | omega) _ | refine Ext.trans ?_ (by assumption)))
end Go.Proofs.YtfajmlkiidnhlaaGreat
