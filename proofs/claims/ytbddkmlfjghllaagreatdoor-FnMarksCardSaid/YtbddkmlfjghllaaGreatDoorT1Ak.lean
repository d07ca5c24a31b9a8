/- Contracts: marks that are drawn. (Printed by genAk.py.) -/
import Derived.Test.YtbddkmlfjghllaaGreatDoorT1Da
import Derived.Test.YtbddkmlfjghllaaGreatDoorT1S
import Derived.Test.YtbddkmlfjghllaaGreatDoorT1Ae
import Derived.Test.YtbddkmlfjghllaaGreatDoorT1Jc
namespace Go.Proofs.YtbddkmlfjghllaaGreatDoor
set_option linter.unusedVariables false
set_option linter.unusedSimpArgs false
open Go.RowKit
attribute [local go_sem] cell_onto

theorem box_str {w : World} {bx q : Nat} {S : List ByteArray} (h : Boxed w bx (S.map Value.string)) (hq : q < S.length) : w.cell? ⟨bx, q, none⟩ = some (.string (strAt S q)) := by
  refine (h.2 q (.string (strAt S q)) ?_).1
  rw [List.getElem?_map, List.getElem?_eq_getElem hq]
  unfold strAt
  rw [List.getD_eq_getElem?_getD, List.getElem?_eq_getElem hq]
  rfl
def nmsL : List ByteArray := [⟨#[101, 97, 103, 108, 101]⟩, ⟨#[108, 105, 111, 110]⟩, ⟨#[114, 111, 115, 101]⟩, ⟨#[115, 99, 114, 105, 98, 101, 97]⟩, ⟨#[115, 99, 114, 105, 98, 101, 98]⟩]
theorem nms_size : ∀ q, q < 5 → (strAt nmsL q).size ≤ 12 := fun q h => by
  have h5 : q = 0 ∨ q = 1 ∨ q = 2 ∨ q = 3 ∨ q = 4 := by omega
  rcases h5 with rfl | rfl | rfl | rfl | rfl <;> decide
def DrStr (b0 g : Nat) (cv : Value) (cn : Nat) (w : World) (e : Ending) (w' : World) : Prop := ∃ s : ByteArray, e = .returned (.string s) ∧ s.size ≤ 12 ∧ Drw b0 g cv cn w w'
def NmOk (m : List Nsp) : Prop := ∀ i, i < m.length → (nspAt m i).nm.size ≤ 12
theorem NmOk.nil : NmOk [] := fun i hi => absurd hi (by simp)
theorem NmOk.push {m : List Nsp} {x : Nsp} (h : NmOk m) (hx : x.nm.size ≤ 12) : NmOk (m ++ [x]) := fun i hi => by
  have hi : i < m.length + 1 := by simpa using hi
  rw [nspAt_app hi]
  split
  · exact hx
  · exact h i (by omega)
theorem NmOk.sort {m m' : List Nsp} (h : NmOk m) (hs : SortR m m.length m') : NmOk m' :=
  hs.names (P := fun a => a.nm.size ≤ 12) (fun a b e _ hp => by rw [← e]; exact hp) h
theorem NmOk.set {m : List Nsp} {p : Nat} (h : NmOk m) (y : Int) : NmOk (m.set p ⟨(nspAt m p).nm, (nspAt m p).fr, y⟩) := fun i hi => by
  have hi : i < m.length := by simpa using hi
  rw [nspAt_set]
  split
  · rename_i e
    have := h i hi
    rw [e.1] at this
    exact this
  · exact h i hi
theorem NmOk.nsm {m : List Nsp} (h : NmOk m) : NSm m := fun i hi => by have := h i hi; omega
def DrMarks (b0 g : Nat) (cv : Value) (cn : Nat) (w : World) (e : Ending) (w' : World) : Prop :=
  ∃ u m, e = .returned u ∧ Drw b0 g cv cn w w' ∧ m.length ≤ 41 ∧ NmOk m ∧ RowNsp w' w.heap.size 88 u m
set_option maxHeartbeats 2000000 in
theorem spec_l16DrawName (b0 g cn : Nat) (cv : Value) (w : World) (h : Src b0 g cv cn w) : Calls Tryz.prog 41 #[.pointer (some ⟨g, 0, none⟩)] w (DrStr b0 g cv cn w) := by
  have hg := h.lt
  have Hs := Lib.hid h
  clear h
  have Hb : Hid (Boxed _ w.heap.size (nmsL.map Value.string)) := Lib.hid (Boxed.new w [.string ⟨#[101, 97, 103, 108, 101]⟩, .string ⟨#[108, 105, 111, 110]⟩, .string ⟨#[114, 111, 115, 101]⟩, .string ⟨#[115, 99, 114, 105, 98, 101, 97]⟩, .string ⟨#[115, 99, 114, 105, 98, 101, 98]⟩] 9)
  go_enter Tryz.func41, Tryz.ntmps41
  go_wp2_with fail
  refine Calls.mono (spec_l01Next _ _ cn _ 5 _ (Hs.out.ext (by repeat (first | exact Ext.refl _ | assumption | refine Ext.alloc ?_ _ | refine Ext.drew ?_ | refine Ext.drewN ?_ _ | refine Ext.setCell ?_ (by first | (simp; done) | (simp; omega) | omega) _ | refine Ext.trans ?_ (by assumption))))) ?_
  rintro e w2 ⟨r, rfl, hb, hd2⟩
  obtain ⟨q, rfl⟩ := Int.eq_ofNat_of_zero_le hb.1
  have hq : q < 5 := by have := hb.2.1 (by omega); omega
  have hbx := Hb.out.drw hd2 (by omega)
  have cq := box_str hbx hq
  have Hd2 := Lib.hid (hd2.pre (a := w) (by repeat (first | exact Ext.refl _ | assumption | refine Ext.alloc ?_ _ | refine Ext.drew ?_ | refine Ext.drewN ?_ _ | refine Ext.setCell ?_ (by first | (simp; done) | (simp; omega) | omega) _ | refine Ext.trans ?_ (by assumption))))
  have hsz := nms_size q hq
  have hqi : (0 : Int) ≤ (q : Int) := by omega
  have hqi5 : (q : Int) < 5 := by omega
  generalize strAt nmsL q = s at *
  clear hd2 hbx hb
  go_wp2_with fail
  go_ret
  exact ⟨s, rfl, hsz, Hd2.out⟩
set_option maxRecDepth 100000 in
set_option maxHeartbeats 8000000 in
theorem spec_l16Draw (b0 g cn : Nat) (cv : Value) (w : World) (h : Src b0 g cv cn w) : Calls Tryz.prog 37 #[.pointer (some ⟨g, 0, none⟩)] w (DrMarks b0 g cv cn w) := by
  have hg := h.lt
  have Hrow0 := Lib.hid (RowNsp.made w 88)
  have Hd0 := Lib.hid ((Drw.refl h).alloc (.cells #[] 88))
  clear h
  have Hsrc : Hid (∀ W s a b, Row (World.alloc W (.cells #[.string s, .int .i64 a, .int .i64 b] 88)) 0 (World.alloc W (.cells #[.string s, .int .i64 a, .int .i64 b] 88)).heap.size 3 (.slice (some ⟨W.heap.size, 0, none⟩) 1 1) 1 (nspCell [⟨s, a, b⟩])) := Lib.hid (fun W s a b => (Boxed.new W [.string s, .int .i64 a, .int .i64 b] 88).row rfl (fun i hi => by
    have hi : i < 3 := hi
    have h3 : i = 0 ∨ i = 1 ∨ i = 2 := by omega
    rcases h3 with rfl | rfl | rfl <;> rfl))
  go_enter Tryz.func37, Tryz.ntmps37
  go_wp2_with fail
  refine Calls.mono (spec_l01Next _ _ cn _ 7 _ Hd0.out.src) ?_
  rintro e w2 ⟨r, rfl, hb, hd2⟩
  obtain ⟨n, rfl⟩ := Int.eq_ofNat_of_zero_le hb.1
  have hn : n < 7 := by have := hb.2.1 (by omega); omega
  have Hd2 := Lib.hid (Hd0.out.trans hd2)
  have Hr2 : Hid (RowNsp w2 w.heap.size 88 (.slice (some ⟨w.heap.size, 0, none⟩) 0 0) []) := Lib.hid (ownsRow_drw Hrow0.out hd2 hg)
  clear hd2 hb
  go_wp2_with fail
  go_loopg [3, 4, 5] 6 (fun q u3 u4 u5 wr => ∃ (k : Nat) (m : List Nsp), k ≤ q ∧ m.length + k ≤ 6 ∧ u4 = .int .i64 k ∧ Hid (Drw b0 g cv cn w wr) ∧ Hid (RowNsp wr w.heap.size 88 u3 m) ∧ Hid (NmOk m))
  case atStart => exact ⟨n, [], by omega, by simp; omega, rfl, Hd2, Hr2, Lib.hid NmOk.nil⟩
  clear Hd0 Hd2 Hr2 Hrow0
  case round =>
    obtain ⟨k, m, hkq, hmk, rfl, Hd, Hr, Hn⟩ := hrel
    obtain ⟨A3, c3, rfl⟩ := ownsRow_len Hr.out
    by_cases hk : 0 < k
    · have hki : (0 : Int) < (k : Int) := by omega
      go_wp2_with fail
      refine Calls.mono (spec_l01Next _ _ cn _ 6000 _ Hd.out.src) ?_
      rintro e w3 ⟨r3, rfl, hb3, hd3⟩
      have r30 := hb3.1
      have r31 := hb3.2.1 (by omega)
      have Hd3 := Lib.hid (Hd.out.trans hd3)
      have Hr3 := Lib.hid (ownsRow_drw Hr.out hd3 hg)
      clear hd3 hb3
      go_wp2_with fail
      refine Calls.mono (spec_l16DrawName _ _ cn _ _ Hd3.out.src) ?_
      rintro e w4 ⟨s, rfl, hs, hd4⟩
      have Hd4 := Lib.hid (Hd3.out.trans hd4)
      have Hr4 := Lib.hid (ownsRow_drw Hr3.out hd4 hg)
      clear hd4
      go_wp2_with fail
      refine Calls.mono (spec_l01Next _ _ cn _ 3000 _ Hd4.out.src) ?_
      rintro e w5 ⟨r5, rfl, hb5, hd5⟩
      have r50 := hb5.1
      have r51 := hb5.2.1 (by omega)
      have Hd5 := Lib.hid (Hd4.out.trans hd5)
      have Hr5 := Lib.hid (ownsRow_drw Hr4.out hd5 hg)
      have hz5 := Hd5.out.size
      clear hd5 hb5
      go_wp2_with (at_builtin; refine wpList_append_row _ rfl _ _ 24 rfl w.heap.size 88 3 32 Tryz.underlying24 (by kernel_rfl) (by omega) _ m.length 1 _ rfl (.inl (row_ext Hr5.out (by repeat (first | exact Ext.refl _ | assumption | refine Ext.alloc ?_ _ | refine Ext.drew ?_ | refine Ext.drewN ?_ _ | refine Ext.setCell ?_ (by first | (simp; done) | (simp; omega) | omega) _ | refine Ext.trans ?_ (by assumption))))) (.inr (by omega)) 0 _ _ _ rfl (Hsrc.out _ _ _ _) (fun i _ => nspCell_one _ i) (by unfold maxLen; omega) (by omega) (by simp; omega) ?_; intro v7 w7 hown7 hput7; have Hrow7 := Lib.hid (RowNsp.push hown7); have Hd7 := Lib.hid ((Hd5.out.ext (by repeat (first | exact Ext.refl _ | assumption | refine Ext.alloc ?_ _ | refine Ext.drew ?_ | refine Ext.drewN ?_ _ | refine Ext.setCell ?_ (by first | (simp; done) | (simp; omega) | omega) _ | refine Ext.trans ?_ (by assumption)))).put hg hput7 (Nat.le_refl _)); clear hown7 hput7)
      go_roundg (k - 1)
      case measure => omega
      case rel => exact ⟨k - 1, _, by omega, by rw [List.length_append, List.length_singleton]; omega, by go_num, Hd7, Hrow7, Lib.hid (Hn.out.push hs)⟩
    · obtain rfl : k = 0 := by omega
      have hml : m.length ≤ 6 := by omega
      go_wp2_with fail
      have hq := spec_l16Sorted _ m wr Hr.out.rows (by omega)
      refine Calls.mono hq ?_
      clear hq
      rintro e w8 ⟨u8, m8, rfl, hs8, hx8, hr8⟩
      have hl8 : m8.length ≤ 6 := Nat.le_trans hs8.len hml
      have Hn8 := Lib.hid (Hn.out.sort hs8)
      have Hd8 := Lib.hid (Hd.out.ext hx8)
      have Hr8 : Hid (RowNsp w8 w.heap.size 88 u8 m8) := Lib.hid (ownsRow_mono hr8 Hd.out.size)
      clear hs8 hx8 hr8 Hn Hr
      obtain ⟨A8, c8, rfl⟩ := ownsRow_len Hr8.out
      go_wp2_with fail
      refine Calls.mono (spec_l01Next _ _ cn _ 60 _ Hd8.out.src) ?_
      rintro e w9 ⟨r9, rfl, -, hd9⟩
      have Hd9 := Lib.hid (Hd8.out.trans hd9)
      have Hr9 : Hid (RowNsp w9 w.heap.size 88 (.slice A8 m8.length c8) m8) := Lib.hid (ownsRow_drw Hr8.out hd9 hg)
      have hz9 := Hd9.out.size
      clear hd9 Hr8
      by_cases z0 : r9 = 0
      · subst z0
        go_wp2_with (at_builtin; refine wpList_append_row _ rfl _ _ 24 rfl w.heap.size 88 3 32 Tryz.underlying24 (by kernel_rfl) (by omega) _ m8.length 1 _ rfl (.inl (row_ext Hr9.out (by repeat (first | exact Ext.refl _ | assumption | refine Ext.alloc ?_ _ | refine Ext.drew ?_ | refine Ext.drewN ?_ _ | refine Ext.setCell ?_ (by first | (simp; done) | (simp; omega) | omega) _ | refine Ext.trans ?_ (by assumption))))) (.inr (by omega)) 0 _ _ _ rfl (Hsrc.out _ _ _ _) (fun i _ => nspCell_one _ i) (by unfold maxLen; omega) (by omega) (by simp; omega) ?_; intro v7 w7 hown7 hput7; have Hrow7 := Lib.hid (RowNsp.push hown7); have Hd7 := Lib.hid ((Hd9.out.ext (by repeat (first | exact Ext.refl _ | assumption | refine Ext.alloc ?_ _ | refine Ext.drew ?_ | refine Ext.drewN ?_ _ | refine Ext.setCell ?_ (by first | (simp; done) | (simp; omega) | omega) _ | refine Ext.trans ?_ (by assumption)))).put hg hput7 (Nat.le_refl _)); clear hown7 hput7)
        go_ret
        exact ⟨_, _, rfl, Hd7.out, by rw [List.length_append, List.length_singleton]; omega, Hn8.out.push (by show (1 : Nat) ≤ 12; omega), Hrow7.out⟩
      have z0' : (r9 == 0) = false := by simpa using z0
      by_cases z1 : r9 = 1
      · subst z1
        have HrM : Hid (RowNsp (w9.alloc (.cells #[] 88)) w.heap.size 88 (.slice (some ⟨w9.heap.size, 0, none⟩) 0 0) []) := Lib.hid (ownsRow_mono (RowNsp.made w9 88) hz9)
        have HdM := Lib.hid (Hd9.out.alloc (.cells #[] 88))
        go_wp2_with fail
        go_loopg [3, 6] 41 (fun q u3 u6 wr => ∃ (k : Nat) (m : List Nsp), k + q = 41 ∧ m.length = k ∧ u6 = .int .i64 k ∧ Hid (Drw b0 g cv cn w wr) ∧ Hid (RowNsp wr w.heap.size 88 u3 m) ∧ Hid (NmOk m))
        case atStart => exact ⟨0, [], by omega, rfl, rfl, HdM, HrM, Lib.hid NmOk.nil⟩
        case round =>
          obtain ⟨k, m, hkq, hmk, rfl, Hd, Hr, Hn⟩ := hrel
          have Hmk := Lib.hid hmk
          clear hmk
          obtain ⟨A3, c3, rfl⟩ := ownsRow_len Hr.out
          go_wp2_with fail
          refine Calls.mono (spec_l01Next _ _ cn _ 2 _ Hd.out.src) ?_
          rintro e w3 ⟨r3, rfl, hb3, hd3⟩
          have r30 := hb3.1
          have r31 := hb3.2.1 (by omega)
          have Hd3 := Lib.hid (Hd.out.trans hd3)
          have Hr3 : Hid (RowNsp w3 w.heap.size 88 (.slice A3 m.length c3) m) := Lib.hid (ownsRow_drw Hr.out hd3 hg)
          have hz5 := Hd3.out.size
          clear hd3 hb3
          by_cases hlt : (k : Int) < 40 + r3
          · have hml : m.length ≤ 41 := by have := Hmk.out; omega
            go_wp2_with (at_builtin; refine wpList_append_row _ rfl _ _ 24 rfl w.heap.size 88 3 32 Tryz.underlying24 (by kernel_rfl) (by omega) _ m.length 1 _ rfl (.inl (row_ext Hr3.out (by repeat (first | exact Ext.refl _ | assumption | refine Ext.alloc ?_ _ | refine Ext.drew ?_ | refine Ext.drewN ?_ _ | refine Ext.setCell ?_ (by first | (simp; done) | (simp; omega) | omega) _ | refine Ext.trans ?_ (by assumption))))) (.inr (by omega)) 0 _ _ _ rfl (Hsrc.out _ _ _ _) (fun i _ => nspCell_one _ i) (by unfold maxLen; omega) (by omega) (by simp; omega) ?_; intro v7 w7 hown7 hput7; have Hrow7 := Lib.hid (RowNsp.push hown7); have Hd7 := Lib.hid ((Hd3.out.ext (by repeat (first | exact Ext.refl _ | assumption | refine Ext.alloc ?_ _ | refine Ext.drew ?_ | refine Ext.drewN ?_ _ | refine Ext.setCell ?_ (by first | (simp; done) | (simp; omega) | omega) _ | refine Ext.trans ?_ (by assumption)))).put hg hput7 (Nat.le_refl _)); clear hown7 hput7)
            go_roundg (41 - (k + 1))
            case measure => omega
            case rel => exact ⟨k + 1, _, by omega, by rw [List.length_append, List.length_singleton, Hmk.out], by go_num, Hd7, Hrow7, Lib.hid (Hn.out.push (by show (4 : Nat) ≤ 12; omega))⟩
          · have hml : m.length ≤ 41 := by have := Hmk.out; omega
            go_wp2_with fail
            have hq := spec_l16Sorted _ m w3 Hr3.out.rows (by omega)
            refine Calls.mono hq ?_
            clear hq
            rintro e wS ⟨uS, mS, rfl, hsS, hxS, hrS⟩
            have hlS : mS.length ≤ 41 := Nat.le_trans hsS.len hml
            have HnS := Lib.hid (Hn.out.sort hsS)
            have HrS : Hid (RowNsp wS w.heap.size 88 uS mS) := Lib.hid (ownsRow_mono hrS hz5)
            have HdS := Lib.hid (Hd3.out.ext hxS)
            clear hsS hxS hrS
            go_wp2_with fail
            go_ret
            exact ⟨_, mS, rfl, HdS.out, hlS, HnS.out, HrS.out⟩
      have z1' : (r9 == 1) = false := by simpa using z1
      by_cases z2 : r9 = 2
      · subst z2
        by_cases hp : 0 < m8.length
        · have hpi : (0 : Int) < (m8.length : Int) := by omega
          obtain ⟨g', rfl, hg', hgs, hcell⟩ := Hr9.out.cells hp
          have k1 := hcell (0 * 3 + 1) (by omega)
          have k2 := hcell (0 * 3 + 2) (by omega)
          rw [nspCell_1] at k1
          rw [nspCell_2] at k2
          simp only [Nat.zero_mul, Nat.zero_add] at k1 k2
          obtain ⟨d1, f1⟩ := k1
          obtain ⟨d2, f2⟩ := k2
          clear hcell
          have Hset := Lib.hid (fun y => Hr9.out.setTo rfl hp y)
          have Hds := Lib.hid (fun y => Hd9.out.setCell (p := ⟨g', 2, none⟩) hg' (Nat.lt_of_lt_of_le hg hg') (.int .i64 y))
          have Hns := Lib.hid (fun y => Hn8.out.set (p := 0) y)
          go_wp2_with fail
          go_ret
          exact ⟨_, _, rfl, Hds.out _, by rw [List.length_set]; omega, Hns.out _, Hset.out _⟩
        · have hpi : ¬ (0 : Int) < (m8.length : Int) := by omega
          go_wp2_with fail
          go_ret
          exact ⟨_, m8, rfl, Hd9.out, by omega, Hn8.out, Hr9.out⟩
      have z2' : (r9 == 2) = false := by simpa using z2
      go_wp2_with fail
      go_ret
      exact ⟨_, m8, rfl, Hd9.out, by omega, Hn8.out, Hr9.out⟩
theorem spec_l07DrawDay (b0 g cn : Nat) (cv : Value) (w : World) (h : Src b0 g cv cn w) : Calls Tryz.prog 39 #[.pointer (some ⟨g, 0, none⟩)] w (DrNum b0 g cv cn (fun _ => True) w) := by
  have hg := h.lt
  have Hs := Lib.hid h
  clear h
  go_enter Tryz.func39, Tryz.ntmps39
  go_wp2_with fail
  refine Calls.mono (spec_l01Next _ _ cn _ 24 _ Hs.out) ?_
  rintro e w2 ⟨r, rfl, -, hd2⟩
  have Hd2 := Lib.hid hd2
  clear hd2
  by_cases z0 : r = 0
  · subst z0
    go_wp2_with fail
    refine Calls.mono (spec_l01DrawDay _ _ cn _ _ Hd2.out.src) ?_
    rintro e w3 ⟨x, rfl, -, hd3⟩
    have Hd3 := Lib.hid (Hd2.out.trans hd3)
    clear hd3
    go_wp2_with fail
    go_ret
    exact ⟨x, rfl, trivial, Hd3.out⟩
  · have z0' : (r == 0) = false := by simpa using z0
    go_wp2_with fail
    refine Calls.mono (spec_l01Next _ _ cn _ 12000 _ Hd2.out.src) ?_
    rintro e w3 ⟨x, rfl, hb3, hd3⟩
    have r30 := hb3.1
    have r31 := hb3.2.1 (by omega)
    have Hd3 := Lib.hid (Hd2.out.trans hd3)
    clear hd3 hb3
    go_wp2_with fail
    go_ret
    exact ⟨_, rfl, trivial, Hd3.out⟩
end Go.Proofs.YtbddkmlfjghllaaGreatDoor
