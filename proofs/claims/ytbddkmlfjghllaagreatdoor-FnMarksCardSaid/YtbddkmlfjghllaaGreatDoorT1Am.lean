/- Texts merged (a claim holds at most sixty files): Am, An. -/
import Derived.Test.YtbddkmlfjghllaaGreatDoorT1Jt
import Derived.Test.YtbddkmlfjghllaaGreatDoorT1Jq
import Derived.Test.YtbddkmlfjghllaaGreatDoorT1Jc
import Derived.Test.YtbddkmlfjghllaaGreatDoorT1Ad
import Derived.Test.YtbddkmlfjghllaaGreatDoorLaJ
import Derived.Deep.RegionHeld3
import Derived.Test.YtbddkmlfjghllaaGreatDoorT1Ak
import Derived.Deep.RegionLaw
/- Contracts: the text of marks, the program's and the reference's. (Printed by genAm.py.) -/
namespace Go.Proofs.YtbddkmlfjghllaaGreatDoor
set_option linter.unusedVariables false
set_option linter.unusedSimpArgs false
open Go.RowKit
attribute [local go_sem] cell_onto

theorem join_joinC (c : UInt8) : ∀ ps : List Bs, Lib.join ps [c] = joinC c ps
  | [] => rfl
  | x :: r => by
    rw [Lib.join_cons]
    have h : ∀ (r : List Bs) (x : Bs), x ++ Lib.joinTail [c] r = joinC c (x :: r) := by
      intro r
      induction r with
      | nil => intro x; simp [Lib.joinTail, joinC]
      | cons y r ih =>
        intro x
        show _ = x ++ c :: joinC c (y :: r)
        rw [← ih y]
        simp [Lib.joinTail]
    exact h r x
theorem joinX : Builder.Extra Tryz.prog Tryz.joinL_ren where
  sizeBuilder := by kernel_rfl
  liesBuilder := by kernel_rfl
  t5 := Tryz.underlying5
  a5 := Tryz.isAgg5
  z5 := Tryz.sizeOf5
  v5 := Tryz.zeroValue5
  infoByte := by kernel_rfl
  cellsByte := by kernel_rfl
  sizeByte := by kernel_rfl
  neB5 := by decide
theorem strings_Join_row (w : World) (base g c : Nat) (L : List ByteArray) (h : RowStr w base 9 (.slice (some ⟨g, 0, none⟩) L.length c) L) (h0 : 0 < L.length) (hl : L.length ≤ 100) (hz : (joinC 44 (L.map (fun s => s.data.toList))).length ≤ 1048576) :
    Calls Tryz.prog 131 #[.slice (some ⟨g, 0, none⟩) L.length c, .string ⟨#[44]⟩] w (RetX (.string (byL (joinC 44 (L.map (fun s => s.data.toList))))) w) := by
  obtain ⟨g', cap, hv, hg, hgw, hcap, hcell⟩ := h.cells h0
  injection hv with e1 e2 e3
  injection e1 with e1
  injection e1 with e1
  subst e1 e3
  have e4 : (⟨#[44]⟩ : ByteArray).data.toList = [44] := rfl
  have hc := Go.Proofs.Any.strings_Join Tryz.joinL joinX g 0 c L ⟨#[44]⟩ w (fun j x hx => by
    obtain ⟨hj, ej⟩ := List.getElem?_eq_some_iff.1 hx
    rw [Nat.zero_add, hcell j hj]
    unfold strAt
    rw [List.getD_eq_getElem?_getD, List.getElem?_eq_getElem hj, ej]
    rfl) hgw (by omega) hcap (by rw [e4, join_joinC]; omega)
  rw [e4, join_joinC] at hc
  exact Calls.mono hc (fun _ _ h => h)
theorem and_keep {w W W' : World} {bk : Nat} {a b c : Value} (h : W.cell? ⟨bk, 0, none⟩ = some a ∧ W.cell? ⟨bk, 1, none⟩ = some b ∧ W.cell? ⟨bk, 2, none⟩ = some c ∧ Ext w W ∧ bk < W.heap.size) (hx : Ext W W') :
    W'.cell? ⟨bk, 0, none⟩ = some a ∧ W'.cell? ⟨bk, 1, none⟩ = some b ∧ W'.cell? ⟨bk, 2, none⟩ = some c ∧ Ext w W' ∧ bk < W'.heap.size :=
  ⟨(hx.cell (p := ⟨bk, 0, none⟩) h.2.2.2.2).trans h.1, (hx.cell (p := ⟨bk, 1, none⟩) h.2.2.2.2).trans h.2.1, (hx.cell (p := ⟨bk, 2, none⟩) h.2.2.2.2).trans h.2.2.1, h.2.2.2.1.trans hx, Nat.lt_of_lt_of_le h.2.2.2.2 hx.size⟩
theorem and_put {w W W' : World} {bk base : Nat} {a b c v v' : Value} (h : W.cell? ⟨bk, 0, none⟩ = some a ∧ W.cell? ⟨bk, 1, none⟩ = some b ∧ W.cell? ⟨bk, 2, none⟩ = some c ∧ Ext w W ∧ bk < W.heap.size) (hp : Put base W v W' v') (hb : w.heap.size ≤ base) (hv : ∀ k, v.ownBlock = some k → k < bk) :
    W'.cell? ⟨bk, 0, none⟩ = some a ∧ W'.cell? ⟨bk, 1, none⟩ = some b ∧ W'.cell? ⟨bk, 2, none⟩ = some c ∧ Ext w W' ∧ bk < W'.heap.size := by
  have hne : ¬ (base ≤ bk ∧ bk < W.heap.size ∧ v.ownBlock = some bk) := fun hh => Nat.lt_irrefl _ (hv bk hh.2.2)
  exact ⟨(hp.1.cell (p := ⟨bk, 0, none⟩) h.2.2.2.2 hne).trans h.1, (hp.1.cell (p := ⟨bk, 1, none⟩) h.2.2.2.2 hne).trans h.2.1, (hp.1.cell (p := ⟨bk, 2, none⟩) h.2.2.2.2 hne).trans h.2.2.1, hp.ext h.2.2.2.1 hb, Nat.lt_of_lt_of_le h.2.2.2.2 hp.1.size⟩
theorem map_wordB (l : List Nsp) : (l.map wordB).map (fun s => s.data.toList) = l.map txM := by
  rw [List.map_map]
  refine List.map_congr_left (fun m _ => ?_)
  show (wordB m).data.toList = txM m
  rw [wordB_tx]
  rfl
set_option maxRecDepth 100000 in
set_option maxHeartbeats 8000000 in
theorem impl_marksText (v : Value) (l : List Nsp) (w : World) (h : Nsps w 0 w.heap.size v l) (hok : MksOk l) (ht : TabW w) : Calls Tryz.prog 80 #[v] w (RetX (.string (byL (txL l))) w) := by
  obtain ⟨A, c, rfl, hn, hc⟩ := h.len
  have H := Lib.hid h
  have Hok := Lib.hid hok
  have Ht := Lib.hid ht
  have hl40 := hok.1
  clear h hok ht
  by_cases hl0 : l.length = 0
  · have hz : l = [] := List.eq_nil_of_length_eq_zero hl0
    subst hz
    have hi0 : ((0 : Int) == 0) = true := by decide
    go_enter Tryz.func80, Tryz.ntmps80
    go_wp2_with fail
    go_ret
    exact ⟨rfl, (by repeat (first | exact Ext.refl _ | assumption | refine Ext.alloc ?_ _ | refine Ext.drew ?_ | refine Ext.drewN ?_ _ | refine Ext.setCell ?_ (by first | (simp; done) | (simp; omega) | omega) _ | refine Ext.trans ?_ (by assumption)))⟩
  have hl0i : ¬ (l.length : Int) = 0 := by omega
  have hl0b : ((l.length : Int) == 0) = false := by simpa using hl0i
  have Hrow0 := Lib.hid (RowStr.made w 9)
  go_enter Tryz.func80, Tryz.ntmps80
  go_wp2_with fail
  go_loopg [3, 5, 12] l.length (fun q u3 u5 i wr => ∃ j : Nat, j + q = l.length ∧ i = .int .i64 j ∧ Ext w wr ∧ Hid (RowStr wr w.heap.size 9 u3 ((l.take j).map wordB)))
  case atStart => exact ⟨0, by omega, rfl, (by repeat (first | exact Ext.refl _ | assumption | refine Ext.alloc ?_ _ | refine Ext.drew ?_ | refine Ext.drewN ?_ _ | refine Ext.setCell ?_ (by first | (simp; done) | (simp; omega) | omega) _ | refine Ext.trans ?_ (by assumption))), Hrow0⟩
  clear Hrow0
  case round =>
    obtain ⟨j, hj, rfl, hx, Hr⟩ := hrel
    obtain ⟨L, hL⟩ : ∃ L, (l.take j).map wordB = L := ⟨_, rfl⟩
    have hml : L.length = j := by rw [← hL]; simp; omega
    rw [hL] at Hr
    have HL := Lib.hid hL
    have Hml := Lib.hid hml
    clear hL
    obtain ⟨A3, c3, rfl⟩ := ownsRow_len Hr.out
    have hz := hx.size
    by_cases hlt : j < l.length
    · obtain ⟨b, off, rfl, _, hb, r1, r2, r3⟩ := (H.out.ext hx (Nat.le_refl _)).at_ hlt
      have hbr : b < wr.heap.size := Nat.lt_of_lt_of_le hb hx.size
      have hj0 : (0 : Int) ≤ (j : Int) := by omega
      have hji : (j : Int) < (l.length : Int) := by omega
      obtain ⟨⟨⟨_, hsz, _⟩, ⟨f0, f1⟩, ⟨t0, t1⟩, _⟩, _⟩ := Hok.out.2 j hlt
      have hd1 := decB_size (nspAt l j).fr.toNat
      have hd2 := decB_size (nspAt l j).to.toNat
      have hs0 : ¬ 9223372036854775806 < (nspAt l j).nm.size := by omega
      have hs4 : ¬ 9223372036854775807 < (nspAt l j).nm.size + 1 := by omega
      have hs5 : ¬ 9223372036854775807 < (nspAt l j).nm.size + 1 + (decB (nspAt l j).fr.toNat).size + 2 := by omega
      have hs1 : ¬ 9223372036854775807 < (nspAt l j).nm.size + 1 + (decB (nspAt l j).fr.toNat).size := by omega
      have hs2 : ¬ 9223372036854775805 < (nspAt l j).nm.size + 1 + (decB (nspAt l j).fr.toNat).size := by omega
      have hs3 : ¬ 9223372036854775807 < (nspAt l j).nm.size + 1 + (decB (nspAt l j).fr.toNat).size + 2 + (decB (nspAt l j).to.toNat).size := by omega
      have Hm := Lib.hid (show (l.take (j + 1)).map wordB = L ++ [wordB (nspAt l j)] from by
        rw [← HL.out, List.take_succ_eq_append_getElem hlt, List.map_append]
        congr 2
        unfold nspAt
        rw [List.getD_eq_getElem?_getD, List.getElem?_eq_getElem hlt]
        rfl)
      have Hsrc : Hid (∀ W, Row (World.alloc W (.cells #[.string (wordB (nspAt l j))] 9)) 0 (World.alloc W (.cells #[.string (wordB (nspAt l j))] 9)).heap.size 1 (.slice (some ⟨W.heap.size, 0, none⟩) 1 1) 1 (strCell [wordB (nspAt l j)])) := Lib.hid (fun W => (Boxed.new W [.string (wordB (nspAt l j))] 9).row rfl (fun i hi => by simp at hi; subst hi; rfl))
      have hw : (nspAt l j).nm ++ ⟨#[58]⟩ ++ decB (nspAt l j).fr.toNat ++ ⟨#[46, 46]⟩ ++ decB (nspAt l j).to.toNat = wordB (nspAt l j) := rfl
      have hml40 : L.length ≤ 40 := by omega
      have Hdec := Lib.hid (fun (x : Int) (W : World) (h0 : 0 ≤ x) (h1 : x ≤ 730499) (hX : Ext w W) => show Calls Tryz.prog 130 #[.int .i64 x] W (RetX (.string (decB x.toNat)) W) from by
        have h9 := impl_decimal_w x W (by omega) (by omega) (Ht.out.ext hX)
        rwa [numB_pos (by omega)] at h9)
      clear hml
      go_upto_region 7 with fail
      obtain ⟨wm, hwm⟩ : ∃ x : World, x = wr.alloc (.cells #[.string (nspAt l j).nm, .int .i64 (nspAt l j).fr, .int .i64 (nspAt l j).to] 88) := ⟨_, rfl⟩
      have hxm : Ext w wm := by rw [hwm]; exact (by repeat (first | exact Ext.refl _ | assumption | refine Ext.alloc ?_ _ | refine Ext.drew ?_ | refine Ext.drewN ?_ _ | refine Ext.setCell ?_ (by first | (simp; done) | (simp; omega) | omega) _ | refine Ext.trans ?_ (by assumption)))
      have hbm : Boxed wm wr.heap.size [.string (nspAt l j).nm, .int .i64 (nspAt l j).fr, .int .i64 (nspAt l j).to] := by rw [hwm]; exact Boxed.new wr [.string (nspAt l j).nm, .int .i64 (nspAt l j).fr, .int .i64 (nspAt l j).to] 88
      have Hrm : Hid (RowStr wm w.heap.size 9 (.slice A3 L.length c3) L) := Lib.hid (by rw [hwm]; exact Hr.out.ext (by repeat (first | exact Ext.refl _ | assumption | refine Ext.alloc ?_ _ | refine Ext.drew ?_ | refine Ext.drewN ?_ _ | refine Ext.setCell ?_ (by first | (simp; done) | (simp; omega) | omega) _ | refine Ext.trans ?_ (by assumption))))
      have g1 := hbm.at0
      have g2 := hbm.at1
      have g3 := hbm.at2
      have hgb : wr.heap.size < wm.heap.size := hbm.1
      have hzm : w.heap.size ≤ wm.heap.size := hxm.size
      rw [← hwm]
      clear hwm hbm r1 r2 r3
      have hS0 := And.intro g1 (And.intro g2 (And.intro g3 (And.intro hxm hgb)))
      have hown : ∀ k, (Value.slice A3 L.length c3).ownBlock = some k → k < wr.heap.size := fun k hk => (World.ownsRow.lt Hr.out k hk).2
      clear g1 g2 g3
      go_region_held3 (fun w' => w'.cell? ⟨wr.heap.size, 0, none⟩ = some (.string (nspAt l j).nm) ∧ w'.cell? ⟨wr.heap.size, 1, none⟩ = some (.int .i64 (nspAt l j).fr) ∧ w'.cell? ⟨wr.heap.size, 2, none⟩ = some (.int .i64 (nspAt l j).to) ∧ Ext w w' ∧ wr.heap.size < w'.heap.size)
        (exact and_keep (by assumption : _ ∧ _ ∧ _ ∧ Ext w _ ∧ _) (by repeat (first | exact Ext.refl _ | assumption | refine Ext.alloc ?_ _ | refine Ext.drew ?_ | refine Ext.drewN ?_ _ | refine Ext.setCell ?_ (by first | (simp; done) | (simp; omega) | omega) _ | refine Ext.trans ?_ (by assumption))))
        ((first
          | (go_at_call 130; refine Calls.mono (Hdec.out _ _ (by omega) (by omega) (by repeat (first | exact Ext.refl _ | exact (by assumption : _ ∧ _ ∧ _ ∧ Ext w _ ∧ _).2.2.2.1 | assumption | refine Ext.alloc ?_ _ | refine Ext.drew ?_ | refine Ext.drewN ?_ _ | refine Ext.trans ?_ (by assumption)))) ?_; rintro e w5 ⟨rfl, hx5⟩; have hz5 := hx5.size; (try simp at hz5))
          | (refine step_append_row rfl (.tmp 16) (.tmp 29) 35 rfl w.heap.size 9 1 16 Tryz.underlying35 (by kernel_rfl) (by omega) (.slice A3 L.length c3) L.length 1 _ rfl (.inl (row_ext Hrm.out (by repeat (first | exact Ext.refl _ | assumption | refine Ext.alloc ?_ _ | refine Ext.drew ?_ | refine Ext.drewN ?_ _ | refine Ext.trans ?_ (by assumption))))) (.inr (by omega)) 0 _ _ (strCell [wordB (nspAt l j)]) rfl (Hsrc.out _) (fun i _ => strCell_one _ i) (by unfold maxLen; omega) (by omega) (by first | (simp; done) | (simp; omega)) ?_; intro v5 w6 hown5 hput5; have Hrow5 := Lib.hid (RowStr.push hown5); have hS6 := and_put (and_keep (by assumption : _ ∧ _ ∧ _ ∧ Ext w _ ∧ _) (by repeat (first | exact Ext.refl _ | assumption | refine Ext.alloc ?_ _ | refine Ext.drew ?_ | refine Ext.drewN ?_ _ | refine Ext.setCell ?_ (by first | (simp; done) | (simp; omega) | omega) _ | refine Ext.trans ?_ (by assumption)))) hput5 (Nat.le_refl _) hown; have hx6 := hS6.2.2.2.1; clear hown5 hput5)))
      all_goals
        go_wp2_with fail
        go_roundg (l.length - (j + 1))
        case measure => omega
        case rel => exact ⟨j + 1, by omega, by go_num, (by repeat (first | exact Ext.refl _ | assumption | refine Ext.alloc ?_ _ | refine Ext.drew ?_ | refine Ext.drewN ?_ _ | refine Ext.setCell ?_ (by first | (simp; done) | (simp; omega) | omega) _ | refine Ext.trans ?_ (by assumption))), Lib.hid (by rw [Hm.out]; exact Hrow5.out)⟩
    · obtain rfl : j = l.length := by omega
      have hLl := HL.out
      rw [List.take_length] at hLl
      have Hll := Lib.hid hLl
      obtain ⟨g, cap, hv, hg, hgw, hcap, hcell⟩ := Hr.out.cells (by omega)
      injection hv with e1 e2 e3
      subst e1 e3
      have Hj := Lib.hid (show joinC 44 (L.map (fun s : ByteArray => s.data.toList)) = txL l from by
        rw [← hLl, map_wordB]
        unfold txL
        rw [if_neg (fun e => by subst e; simp at hl0)])
      have hq := strings_Join_row wr w.heap.size g c3 L Hr.out (by omega) (by omega) (by rw [Hj.out]; have := txL_len Hok.out; omega)
      rw [Hj.out] at hq
      clear hcell hLl hml hcap
      go_wp2_with fail
      refine Calls.mono hq ?_
      rintro e w1 ⟨rfl, hx1⟩
      clear hq
      go_wp2_with fail
      go_ret
      exact ⟨rfl, (by repeat (first | exact Ext.refl _ | assumption | refine Ext.alloc ?_ _ | refine Ext.drew ?_ | refine Ext.drewN ?_ _ | refine Ext.setCell ?_ (by first | (simp; done) | (simp; omega) | omega) _ | refine Ext.trans ?_ (by assumption)))⟩
set_option maxHeartbeats 2000000 in
theorem impl_MarksText (v : Value) (l : List Nsp) (w : World) (h : Nsps w 0 w.heap.size v l) (ht : TabW w) : Calls Tryz.prog 27 #[v] w (RetX (.tuple #[.string (mtxB l), .int .i64 (mtxE l)]) w) := by
  obtain ⟨A, c, rfl, hn, hc⟩ := h.len
  have H := Lib.hid h
  have Ht := Lib.hid ht
  clear ht
  clear h
  go_enter Tryz.func27, Tryz.ntmps27
  go_wp2_with fail
  refine Calls.mono (impl_AreMarks _ l _ H.out) ?_
  rintro e w1 ⟨rfl, hx1⟩
  by_cases hok : MksOk l
  · have Hm := Lib.hid (mtx_ok hok)
    rw [B_true hok]
    go_wp2_with fail
    refine Calls.mono (impl_marksText _ l _ (H.out.up hx1) hok (Ht.out.ext hx1)) ?_
    rintro e w2 ⟨rfl, hx2⟩
    go_wp2_with fail
    go_ret2
    rw [Hm.out.1, Hm.out.2]
    exact ⟨rfl, (by repeat (first | exact Ext.refl _ | assumption | refine Ext.alloc ?_ _ | refine Ext.drew ?_ | refine Ext.drewN ?_ _ | refine Ext.setCell ?_ (by first | (simp; done) | (simp; omega) | omega) _ | refine Ext.trans ?_ (by assumption)))⟩
  · have Hm := Lib.hid (mtx_no hok)
    rw [B_false hok]
    go_wp2_with fail
    go_ret2
    rw [Hm.out.1, Hm.out.2]
    exact ⟨rfl, (by repeat (first | exact Ext.refl _ | assumption | refine Ext.alloc ?_ _ | refine Ext.drew ?_ | refine Ext.drewN ?_ _ | refine Ext.setCell ?_ (by first | (simp; done) | (simp; omega) | omega) _ | refine Ext.trans ?_ (by assumption)))⟩
set_option maxHeartbeats 2000000 in
theorem spec_MarksText (v : Value) (l : List Nsp) (w : World) (h : Nsps w 0 w.heap.size v l) (hsm : NSm l) : Calls Tryz.prog 28 #[v] w (RetX (.tuple #[.string (mtxB l), .int .i64 (mtxE l)]) w) := by
  obtain ⟨A, c, rfl, hn, hc⟩ := h.len
  have H := Lib.hid h
  clear h
  go_enter Tryz.func28, Tryz.ntmps28
  go_wp2_with fail
  refine Calls.mono (spec_AreMarks _ l _ H.out hsm) ?_
  rintro e w1 ⟨rfl, hx1⟩
  by_cases hok : MksOk l
  · have Hm := Lib.hid (mtx_ok hok)
    rw [B_true hok]
    go_wp2_with fail
    refine Calls.mono (spec_l16Text _ l _ (H.out.up hx1) hok) ?_
    rintro e w2 ⟨rfl, hx2⟩
    go_wp2_with fail
    go_ret2
    rw [Hm.out.1, Hm.out.2]
    exact ⟨rfl, (by repeat (first | exact Ext.refl _ | assumption | refine Ext.alloc ?_ _ | refine Ext.drew ?_ | refine Ext.drewN ?_ _ | refine Ext.setCell ?_ (by first | (simp; done) | (simp; omega) | omega) _ | refine Ext.trans ?_ (by assumption)))⟩
  · have Hm := Lib.hid (mtx_no hok)
    rw [B_false hok]
    go_wp2_with fail
    go_ret2
    rw [Hm.out.1, Hm.out.2]
    exact ⟨rfl, (by repeat (first | exact Ext.refl _ | assumption | refine Ext.alloc ?_ _ | refine Ext.drew ?_ | refine Ext.drewN ?_ _ | refine Ext.setCell ?_ (by first | (simp; done) | (simp; omega) | omega) _ | refine Ext.trans ?_ (by assumption)))⟩
end Go.Proofs.YtbddkmlfjghllaaGreatDoor

/- Contracts: a text that is damaged; what the laws on the text of marks are asked about. (Printed by genAn.py.) -/
namespace Go.Proofs.YtbddkmlfjghllaaGreatDoor
set_option linter.unusedVariables false
set_option linter.unusedSimpArgs false
open Go.RowKit
attribute [local go_sem] cell_onto

def dmL : List ByteArray := [⟨#[48]⟩, ⟨#[49]⟩, ⟨#[32]⟩, ⟨#[45]⟩, ⟨#[44]⟩, ⟨#[118]⟩, ⟨#[10]⟩, ⟨#[97]⟩]
theorem dm_size : ∀ q, q < 8 → (strAt dmL q).size = 1 := fun q h => by
  have h5 : q = 0 ∨ q = 1 ∨ q = 2 ∨ q = 3 ∨ q = 4 ∨ q = 5 ∨ q = 6 ∨ q = 7 := by omega
  rcases h5 with rfl | rfl | rfl | rfl | rfl | rfl | rfl | rfl <;> rfl
theorem dm_at {q : Nat} (h : q < 8) : (#[.string ⟨#[48]⟩, .string ⟨#[49]⟩, .string ⟨#[32]⟩, .string ⟨#[45]⟩, .string ⟨#[44]⟩, .string ⟨#[118]⟩, .string ⟨#[10]⟩, .string ⟨#[97]⟩] : Array Value)[q]? = some (.string (strAt dmL q)) := by
  have h5 : q = 0 ∨ q = 1 ∨ q = 2 ∨ q = 3 ∨ q = 4 ∨ q = 5 ∨ q = 6 ∨ q = 7 := by omega
  rcases h5 with rfl | rfl | rfl | rfl | rfl | rfl | rfl | rfl <;> rfl
theorem dm_at2 {q : Nat} (h : q < 8) (h' : q < ([.string ⟨#[48]⟩, .string ⟨#[49]⟩, .string ⟨#[32]⟩, .string ⟨#[45]⟩, .string ⟨#[44]⟩, .string ⟨#[118]⟩, .string ⟨#[10]⟩, .string ⟨#[97]⟩] : List Value).length) : ([.string ⟨#[48]⟩, .string ⟨#[49]⟩, .string ⟨#[32]⟩, .string ⟨#[45]⟩, .string ⟨#[44]⟩, .string ⟨#[118]⟩, .string ⟨#[10]⟩, .string ⟨#[97]⟩] : List Value)[q]'h' = .string (strAt dmL q) := by
  have h5 : q = 0 ∨ q = 1 ∨ q = 2 ∨ q = 3 ∨ q = 4 ∨ q = 5 ∨ q = 6 ∨ q = 7 := by omega
  rcases h5 with rfl | rfl | rfl | rfl | rfl | rfl | rfl | rfl <;> rfl
def DrTxt (b0 g : Nat) (cv : Value) (cn : Nat) (k : Nat) (w : World) (e : Ending) (w' : World) : Prop := ∃ s : ByteArray, e = .returned (.string s) ∧ s.size ≤ k ∧ Drw b0 g cv cn w w'
set_option maxRecDepth 100000 in
set_option maxHeartbeats 8000000 in
theorem spec_l01Damage (b0 g cn : Nat) (cv : Value) (t : ByteArray) (w : World) (h : Src b0 g cv cn w) (ht : t.size ≤ 1000000) : Calls Tryz.prog 82 #[.pointer (some ⟨g, 0, none⟩), .string t] w (DrTxt b0 g cv cn 1048576 w) := by
  have hg := h.lt
  have Hs := Lib.hid h
  clear h
  go_enter Tryz.func82, Tryz.ntmps82
  go_wp2_with fail
  refine Calls.mono (spec_l01Next _ _ cn _ _ _ Hs.out) ?_
  rintro e w2 ⟨r, rfl, hb, hd2⟩
  obtain ⟨q, rfl⟩ := Int.eq_ofNat_of_zero_le hb.1
  have hq : q ≤ t.size := by
    by_cases h1 : 1 < ((t.size : Int) + 1)
    · have := hb.2.1 h1; omega
    · have := hb.2.2 (by omega); omega
  have Hd2 := Lib.hid hd2
  have hq0 : (0 : Int) ≤ (q : Int) := by omega
  have hqi : (q : Int) ≤ (t.size : Int) := by omega
  clear hd2 hb
  go_wp2_with fail
  refine Calls.mono (spec_l01Next _ _ cn _ 8 _ Hd2.out.src) ?_
  rintro e w3 ⟨r3, rfl, -, hd3⟩
  have Hd3 := Lib.hid (Hd2.out.trans hd3)
  clear hd3
  have he1 : (t.extract 0 q).size = q := by rw [ByteArray.size_extract]; omega
  have he2 : (t.extract q t.size).size = t.size - q := by rw [ByteArray.size_extract]; omega
  have hs1 : ¬ 9223372036854775807 < q + 1 := by omega
  have hs2 : ¬ 9223372036854775807 < q + 1 + (t.size - q) := by omega
  have hs3 : ¬ 9223372036854775807 < q + (t.size - (q + 1)) := by omega
  by_cases z0 : r3 = 0
  · subst z0
    go_wp2_with fail
    go_ret
    exact ⟨_, rfl, by rw [he1]; omega, Hd3.out⟩
  have z0' : (r3 == 0) = false := by simpa using z0
  by_cases z1 : r3 = 1
  · subst z1
    have BX := Lib.hid (fun (g0 : Nat) (W0 W : World) (h2 : W0.heap.size = g0) (hX : Ext (W0.alloc (.cells #[.string ⟨#[48]⟩, .string ⟨#[49]⟩, .string ⟨#[32]⟩, .string ⟨#[45]⟩, .string ⟨#[44]⟩, .string ⟨#[118]⟩, .string ⟨#[10]⟩, .string ⟨#[97]⟩] 9)) W) => show Boxed W g0 (dmL.map Value.string) from by
      subst h2
      exact (Boxed.new W0 [.string ⟨#[48]⟩, .string ⟨#[49]⟩, .string ⟨#[32]⟩, .string ⟨#[45]⟩, .string ⟨#[44]⟩, .string ⟨#[118]⟩, .string ⟨#[10]⟩, .string ⟨#[97]⟩] 9).ext hX)
    have hz3 := Hd3.out.size
    go_wp2_with fail
    go_region_law (
      (go_simp; go_at_call 38; refine Calls.mono (spec_l01Next _ _ cn _ 8 _ (Hd3.out.ext (by repeat (first | exact Ext.refl _ | assumption | refine Ext.alloc ?_ _ | refine Ext.drew ?_ | refine Ext.drewN ?_ _ | refine Ext.setCell ?_ (by first | (simp; done) | (simp; omega) | omega) _ | refine Ext.trans ?_ (by assumption)))).src) ?_; rintro e w5 ⟨r5, rfl, hb5, hd5⟩; obtain ⟨q5, rfl⟩ := Int.eq_ofNat_of_zero_le hb5.1; have hq5 : q5 < 8 := (by have := hb5.2.1 (by omega); omega); have Hd5 := Lib.hid ((Hd3.out.ext (by repeat (first | exact Ext.refl _ | assumption | refine Ext.alloc ?_ _ | refine Ext.drew ?_ | refine Ext.drewN ?_ _ | refine Ext.setCell ?_ (by first | (simp; done) | (simp; omega) | omega) _ | refine Ext.trans ?_ (by assumption)))).trans hd5); have hS := dm_at hq5; have hS2 := dm_at2 hq5; have hsz5 := dm_size q5 hq5; have q50 : (0 : Int) ≤ (q5 : Int) := (by omega); have q58 : (q5 : Int) < 8 := (by omega); have hz5 := hd5.size; (first | have cS := box_str (S := dmL) (Boxed.drw (BX.out w3.heap.size w3 _ rfl (Ext.refl _)) hd5 (by omega)) hq5 | have cS := box_str (S := dmL) (Boxed.drw (BX.out w3.heap.size w3 _ rfl ((Ext.refl _).drew)) hd5 (by omega)) hq5 | skip); clear hd5 hb5))
    all_goals
      go_wp2_with fail
      go_ret
      exact ⟨_, rfl, by rw [ByteArray.size_append, ByteArray.size_append, he1, he2, hsz5]; omega, Hd5.out.ext (by repeat (first | exact Ext.refl _ | assumption | refine Ext.alloc ?_ _ | refine Ext.drew ?_ | refine Ext.drewN ?_ _ | refine Ext.setCell ?_ (by first | (simp; done) | (simp; omega) | omega) _ | refine Ext.trans ?_ (by assumption)))⟩
  have z1' : (r3 == 1) = false := by simpa using z1
  by_cases z2 : r3 = 2
  · subst z2
    by_cases hlt : q < t.size
    · have hlti : (q : Int) < (t.size : Int) := by omega
      have he3 : (t.extract (q + 1) t.size).size = t.size - (q + 1) := by rw [ByteArray.size_extract]; omega
      go_wp2_with fail
      (refine wp_region_onto prog_mixed (by kernel_rfl) ?_; (repeat (go_big_quiet_step ((fail)))); refine onto_end ?_; intro w5 hx5)
      go_wp2_with fail
      go_ret
      exact ⟨_, rfl, by rw [ByteArray.size_append, he1, he3]; omega, Hd3.out.ext hx5⟩
    · have hlti : ¬ (q : Int) < (t.size : Int) := by omega
      go_wp2_with fail
      go_ret
      exact ⟨t, rfl, by omega, Hd3.out⟩
  have z2' : (r3 == 2) = false := by simpa using z2
  go_wp2_with fail
  go_ret
  exact ⟨t, rfl, by omega, Hd3.out⟩
/-- marks that were drawn -/
def DMk (w : World) (e : Ending) (w' : World) : Prop := ∃ A c m, e = .returned (.slice A m.length c) ∧ Ext w w' ∧ m.length ≤ 41 ∧ NmOk m ∧ Hid (Nsps w' 0 w'.heap.size (.slice A m.length c) m)
set_option maxHeartbeats 2000000 in
theorem spec_DrawMarksText (cn : Nat) (cv : Value) (w : World) (h : Bytes w 0 w.heap.size cv cn) : Calls Tryz.prog 26 #[cv] w (DMk w) := by
  obtain ⟨A, c, rfl, _⟩ := h.len
  have H := Lib.hid h
  clear h
  go_enter Tryz.func26, Tryz.ntmps26
  go_wp2_with fail
  refine Calls.mono (spec_l01From cn _ _ H.out) ?_
  rintro e w1 ⟨rfl, hx1, hs1⟩
  have Hs1 := Lib.hid hs1
  clear hs1
  go_wp2_with fail
  refine Calls.mono (spec_l16Draw _ _ cn _ _ Hs1.out) ?_
  rintro e w2 ⟨u, m, rfl, hd2, hl2, hn2, hr2⟩
  obtain ⟨A2, c2, rfl⟩ := ownsRow_len hr2
  have hx2 := hd2.old hx1 (Nat.le_refl _)
  have Hr2 := Lib.hid hr2.rows
  have Hn2 := Lib.hid hn2
  clear hd2 hr2 hn2
  go_wp2_with fail
  go_ret
  exact ⟨A2, c2, m, rfl, (by repeat (first | exact Ext.refl _ | assumption | refine Ext.alloc ?_ _ | refine Ext.drew ?_ | refine Ext.drewN ?_ _ | refine Ext.setCell ?_ (by first | (simp; done) | (simp; omega) | omega) _ | refine Ext.trans ?_ (by assumption))), hl2, Hn2.out, Lib.hid Hr2.out⟩
set_option maxHeartbeats 4000000 in
theorem spec_DrawReadMarks (cn : Nat) (cv : Value) (w : World) (h : Bytes w 0 w.heap.size cv cn) : Calls Tryz.prog 29 #[cv] w (fun e w' => ∃ s : ByteArray, e = .returned (.string s) ∧ s.size ≤ 1048576 ∧ Ext w w') := by
  obtain ⟨A, c, rfl, _⟩ := h.len
  have H := Lib.hid h
  clear h
  go_enter Tryz.func29, Tryz.ntmps29
  go_wp2_with fail
  refine Calls.mono (spec_l01From cn _ _ H.out) ?_
  rintro e w1 ⟨rfl, hx1, hs1⟩
  have Hs1 := Lib.hid hs1
  clear hs1
  go_wp2_with fail
  refine Calls.mono (spec_l16Draw _ _ cn _ _ Hs1.out) ?_
  rintro e w2 ⟨u, m, rfl, hd2, hl2, hn2, hr2⟩
  obtain ⟨A2, c2, rfl⟩ := ownsRow_len hr2
  have Hr2 := Lib.hid hr2.rows
  have Hn2 := Lib.hid hn2
  have Hd2 := Lib.hid hd2
  clear hd2 hr2 hn2
  go_wp2_with fail
  refine Calls.mono (spec_MarksText _ m _ Hr2.out Hn2.out.nsm) ?_
  rintro e w3 ⟨rfl, hx3⟩
  have hsz := mtxB_size m
  have Hd3 := Lib.hid (Hd2.out.ext hx3)
  generalize mtxB m = t at *
  go_wp2_with fail
  refine Calls.mono (spec_l01Next _ _ cn _ 3 _ Hd3.out.src) ?_
  rintro e w4 ⟨r, rfl, -, hd4⟩
  have Hd4 := Lib.hid (Hd3.out.trans hd4)
  clear hd4
  by_cases z0 : r = 0
  · subst z0
    go_wp2_with fail
    refine Calls.mono (spec_l01Damage _ _ cn _ t _ Hd4.out.src (by omega)) ?_
    rintro e w5 ⟨s, rfl, hs, hd5⟩
    have hx5 := (Hd4.out.trans hd5).old hx1 (Nat.le_refl _)
    clear hd5
    go_wp2_with fail
    go_ret
    exact ⟨s, rfl, hs, (by repeat (first | exact Ext.refl _ | assumption | refine Ext.alloc ?_ _ | refine Ext.drew ?_ | refine Ext.drewN ?_ _ | refine Ext.setCell ?_ (by first | (simp; done) | (simp; omega) | omega) _ | refine Ext.trans ?_ (by assumption)))⟩
  · have z0' : (r == 0) = false := by simpa using z0
    have hx4 := Hd4.out.old hx1 (Nat.le_refl _)
    go_wp2_with fail
    go_ret
    exact ⟨t, rfl, by omega, (by repeat (first | exact Ext.refl _ | assumption | refine Ext.alloc ?_ _ | refine Ext.drew ?_ | refine Ext.drewN ?_ _ | refine Ext.setCell ?_ (by first | (simp; done) | (simp; omega) | omega) _ | refine Ext.trans ?_ (by assumption)))⟩
end Go.Proofs.YtbddkmlfjghllaaGreatDoor
