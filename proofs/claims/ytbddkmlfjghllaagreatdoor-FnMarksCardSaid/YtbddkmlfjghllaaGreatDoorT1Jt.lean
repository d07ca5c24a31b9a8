/- Texts merged (a claim holds at most sixty files): Jt, Ju. -/
import Derived.Test.YtbddkmlfjghllaaGreatDoorT1Js
import Derived.Test.YtbddkmlfjghllaaGreatDoorT1Jq
import Derived.Test.YtbddkmlfjghllaaGreatDoorT1Td
import Derived.Deep.RegionLaw
import Derived.Deep.RegionHeld3
import Derived.IntWalk
import Derived.Test.YtbddkmlfjghllaaGreatDoorT1Jd
/- Contracts: the reference's cutting of a text, its digits, the text of marks. -/
namespace Go.Proofs.YtbddkmlfjghllaaGreatDoor
set_option linter.unusedVariables false
set_option linter.unusedSimpArgs false
open Go.RowKit
attribute [local go_sem] cell_onto

theorem extract_list (s : ByteArray) (a b : Nat) : s.extract a b = byL ((s.data.toList.drop a).take (b - a)) := by
  refine bytes_ext ?_
  rw [byL_list]
  have : (s.extract a b).data = s.data.extract a b := by simp
  rw [this]
  simp
theorem list_get (s : ByteArray) {j : Nat} (h : j < s.size) : ∃ hj : j < s.data.toList.length, s.data.toList[j] = s[j] := ⟨by simpa using h, by simp [ByteArray.getElem_eq_getElem_data]⟩
theorem byt_list (s : ByteArray) {j : Nat} (h : j < s.size) (c : UInt8) : byt s j = (c.toNat : Int) ↔ s.data.toList[j]? = some c := by
  obtain ⟨hj, e⟩ := list_get s h
  rw [List.getElem?_eq_getElem hj, e]
  unfold byt
  rw [dif_pos h]
  constructor
  · intro h2; congr 1; exact UInt8.toNat_inj.1 (by omega)
  · intro h2; injection h2 with h2; rw [h2]
/-- a text cut so far: 'done' are the pieces, f is where the next begins -/
structure SplIn (c : UInt8) (s : ByteArray) (i f : Nat) (d : List Bs) : Prop where
  le : f ≤ i
  no : ∀ k, f ≤ k → k < i → s.data.toList[k]? ≠ some c
  all : d ++ splL c (s.data.toList.drop f) = splL c s.data.toList
  len : d.length ≤ f
theorem SplIn.zero (c : UInt8) (s : ByteArray) : SplIn c s 0 0 [] := ⟨Nat.le_refl _, fun k _ h => absurd h (by omega), rfl, Nat.zero_le _⟩
theorem SplIn.step {c : UInt8} {s : ByteArray} {i f : Nat} {d : List Bs} (h : SplIn c s i f d) (hn : s.data.toList[i]? ≠ some c) : SplIn c s (i + 1) f d :=
  ⟨by have := h.le; omega, fun k h1 h2 => by
    by_cases e : k = i
    · subst e; exact hn
    · exact h.no k h1 (by omega), h.all, h.len⟩
theorem piece_no {c : UInt8} {l : Bs} {f i : Nat} (h : ∀ k, f ≤ k → k < i → l[k]? ≠ some c) : c ∉ (l.drop f).take (i - f) := by
  intro hm
  obtain ⟨k, hk⟩ := List.getElem?_of_mem hm
  rw [List.getElem?_take] at hk
  split at hk
  · rename_i h1
    rw [List.getElem?_drop] at hk
    exact h (f + k) (by omega) (by omega) hk
  · cases hk
theorem drop_cut {c : UInt8} {l : Bs} {f i : Nat} (hf : f ≤ i) (h : l[i]? = some c) : l.drop f = (l.drop f).take (i - f) ++ c :: l.drop (i + 1) := by
  obtain ⟨hi, e⟩ := List.getElem?_eq_some_iff.1 h
  have h1 : (l.drop f).drop (i - f) = c :: l.drop (i + 1) := by
    rw [List.drop_drop, show f + (i - f) = i by omega, List.drop_eq_getElem_cons hi, e]
  rw [← h1, List.take_append_drop]
theorem SplIn.cut {c : UInt8} {s : ByteArray} {i f : Nat} {d : List Bs} (h : SplIn c s i f d) (hi : s.data.toList[i]? = some c) : SplIn c s (i + 1) (i + 1) (d ++ [(s.data.toList.drop f).take (i - f)]) := by
  refine ⟨Nat.le_refl _, fun k h1 h2 => absurd h2 (by omega), ?_, by have := h.len; have := h.le; simp; omega⟩
  rw [← h.all, List.append_assoc]
  congr 1
  rw [drop_cut h.le hi, splL_cut _ (piece_no h.no)]
  have h3 : c ∉ (s.data.toList.drop f).take (i - f) := piece_no h.no
  rw [← drop_cut h.le hi]
  rfl
theorem SplIn.last {c : UInt8} {s : ByteArray} {f : Nat} {d : List Bs} (h : SplIn c s s.size f d) : d ++ [(s.data.toList.drop f).take (s.size - f)] = splL c s.data.toList := by
  rw [← h.all]
  have h3 : (s.data.toList.drop f).take (s.size - f) = s.data.toList.drop f := List.take_of_length_le (by rw [List.length_drop]; simp)
  rw [h3]
  have h4 : c ∉ s.data.toList.drop f := by rw [← h3]; exact piece_no h.no
  rw [splL_no h4]
theorem splL_len (c : UInt8) : ∀ s : Bs, (splL c s).length ≤ s.length + 1
  | [] => Nat.le_refl _
  | b :: r => by
    have ih := splL_len c r
    by_cases e : b = c
    · subst e; rw [splL_is]; simp; exact ih
    · rw [splL_nt r e]
      split
      · simp
      · rename_i x xs hx; rw [hx] at ih; simp at ih ⊢; omega
theorem RowStr.rowsB {w : World} {base : Nat} {T : TypeId} {v : Value} {l : List ByteArray} (h : RowStr w base T v l) : Strs w base w.heap.size v l := by
  obtain ⟨g, h1, h2⟩ := Own.of_owned h
  exact h2.row (fun h0 => ⟨(h1 h0).2, h2.lt h0⟩)
set_option maxRecDepth 100000 in
set_option maxHeartbeats 4000000 in
theorem spec_l01Split (s : ByteArray) (c : UInt8) (w : World) (hs : s.size ≤ 1048576) : Calls Tryz.prog 86 #[.string s, .int .u8 c.toNat] w (StrsNew ((splL c s.data.toList).map byL) w) := by
  have hb := get_byt s
  have Hrow0 := Lib.hid (RowStr.made w 9)
  go_enter Tryz.func86, Tryz.ntmps86
  go_wp2_with fail
  go_loopg [5, 6, 7] (s.size + 1) (fun q u5 u6 u7 wr => ∃ (j f : Nat) (d : List Bs), j + q = s.size + 1 ∧ u7 = .int .i64 j ∧ u6 = .int .i64 f ∧ f ≤ j ∧ d.length ≤ j ∧ Ext w wr ∧ Hid (RowStr wr w.heap.size 9 u5 (d.map byL)) ∧ Hid ((j ≤ s.size → SplIn c s j f d) ∧ (j = s.size + 1 → d = splL c s.data.toList)))
  case atStart => exact ⟨0, 0, [], by omega, rfl, rfl, Nat.le_refl _, Nat.le_refl _, (by repeat (first | exact Ext.refl _ | assumption | refine Ext.alloc ?_ _ | refine Ext.drew ?_ | refine Ext.drewN ?_ _ | refine Ext.setCell ?_ (by first | (simp; done) | (simp; omega) | omega) _ | refine Ext.trans ?_ (by assumption))), Hrow0, Lib.hid ⟨fun _ => SplIn.zero c s, fun h => absurd h (by omega)⟩⟩
  clear Hrow0
  case round =>
    obtain ⟨j, f, d, hj, rfl, rfl, hfj, hdl, hx, Hr, Hi⟩ := hrel
    obtain ⟨L, hL⟩ : ∃ L, d.map byL = L := ⟨_, rfl⟩
    have hml : L.length = d.length := by rw [← hL]; simp
    rw [hL] at Hr
    have HL := Lib.hid hL
    clear hL
    obtain ⟨A5, c5, rfl⟩ := ownsRow_len Hr.out
    have hz := hx.size
    by_cases hlt : j ≤ s.size
    · have hj0 : (0 : Int) ≤ (j : Int) := by omega
      have hf0 : (0 : Int) ≤ (f : Int) := by omega
      have hfi : (f : Int) ≤ (j : Int) := by omega
      have hjs : (j : Int) ≤ (s.size : Int) := by omega
      have Hsrc : Hid (∀ W, Row (World.alloc W (.cells #[.string (s.extract f j)] 9)) 0 (World.alloc W (.cells #[.string (s.extract f j)] 9)).heap.size 1 (.slice (some ⟨W.heap.size, 0, none⟩) 1 1) 1 (strCell [s.extract f j])) := Lib.hid (fun W => (Boxed.new W [.string (s.extract f j)] 9).row rfl (fun i hi => by simp at hi; subst hi; rfl))
      by_cases hend : j = s.size
      · subst hend
        have Hl := Lib.hid (Hi.out.1 (Nat.le_refl _)).last
        have hW : IntKind.i64.wrap ((s.size : Int) + 1) = (s.size : Int) + 1 := IntWalk.i64_in _ (by omega)
        go_wp2_with (at_builtin; refine wpList_append_row _ rfl _ _ 35 rfl w.heap.size 9 1 16 Tryz.underlying35 (by kernel_rfl) (by omega) _ L.length 1 _ rfl (.inl (row_ext Hr.out (by repeat (first | exact Ext.refl _ | assumption | refine Ext.alloc ?_ _ | refine Ext.drew ?_ | refine Ext.drewN ?_ _ | refine Ext.setCell ?_ (by first | (simp; done) | (simp; omega) | omega) _ | refine Ext.trans ?_ (by assumption))))) (.inr (by omega)) 0 _ _ (strCell [s.extract f s.size]) rfl (Hsrc.out _) (fun i _ => strCell_one _ i) (by unfold maxLen; omega) (by omega) (by simp; omega) ?_; intro v5 w5 hown5 hput5; have Hrow5 := Lib.hid (RowStr.push hown5); have Hx5 := Lib.hid (hput5.ext (show Ext w _ from (by repeat (first | exact Ext.refl _ | assumption | refine Ext.alloc ?_ _ | refine Ext.drew ?_ | refine Ext.drewN ?_ _ | refine Ext.setCell ?_ (by first | (simp; done) | (simp; omega) | omega) _ | refine Ext.trans ?_ (by assumption)))) (Nat.le_refl _)); clear hown5 hput5)
        go_roundg 0
        case measure => omega
        case rel => exact ⟨s.size + 1, s.size + 1, splL c s.data.toList, by omega, by go_num, by go_num, by omega, by have := splL_len c s.data.toList; simpa using this, Hx5.out, Lib.hid (by rw [← Hl.out, List.map_append, HL.out]; rw [extract_list] at Hrow5; exact Hrow5.out), Lib.hid ⟨fun h => absurd h (by omega), fun _ => rfl⟩⟩
      · have hlt2 : j < s.size := by omega
        have hji : (j : Int) < (s.size : Int) := by omega
        have hne : ¬ (j : Int) = (s.size : Int) := by omega
        have hnb : ((j : Int) == (s.size : Int)) = false := by simpa using hne
        by_cases hc : byt s j = (c.toNat : Int)
        · have Hl := Lib.hid ((Hi.out.1 hlt).cut ((byt_list s hlt2 c).1 hc))
          go_wp2_with (at_builtin; refine wpList_append_row _ rfl _ _ 35 rfl w.heap.size 9 1 16 Tryz.underlying35 (by kernel_rfl) (by omega) _ L.length 1 _ rfl (.inl (row_ext Hr.out (by repeat (first | exact Ext.refl _ | assumption | refine Ext.alloc ?_ _ | refine Ext.drew ?_ | refine Ext.drewN ?_ _ | refine Ext.setCell ?_ (by first | (simp; done) | (simp; omega) | omega) _ | refine Ext.trans ?_ (by assumption))))) (.inr (by omega)) 0 _ _ (strCell [s.extract f j]) rfl (Hsrc.out _) (fun i _ => strCell_one _ i) (by unfold maxLen; omega) (by omega) (by simp; omega) ?_; intro v5 w5 hown5 hput5; have Hrow5 := Lib.hid (RowStr.push hown5); have Hx5 := Lib.hid (hput5.ext (show Ext w _ from (by repeat (first | exact Ext.refl _ | assumption | refine Ext.alloc ?_ _ | refine Ext.drew ?_ | refine Ext.drewN ?_ _ | refine Ext.setCell ?_ (by first | (simp; done) | (simp; omega) | omega) _ | refine Ext.trans ?_ (by assumption)))) (Nat.le_refl _)); clear hown5 hput5)
          go_roundg (s.size + 1 - (j + 1))
          case measure => omega
          case rel => exact ⟨j + 1, j + 1, d ++ [(s.data.toList.drop f).take (j - f)], by omega, by go_num, by go_num, by omega, by simp; omega, Hx5.out, Lib.hid (by rw [List.map_append, HL.out]; rw [extract_list] at Hrow5; exact Hrow5.out), Lib.hid ⟨fun _ => Hl.out, fun h => absurd h (by omega)⟩⟩
        · have hcb : (byt s j == (c.toNat : Int)) = false := by simpa using hc
          have Hl := Lib.hid ((Hi.out.1 hlt).step (fun h => hc ((byt_list s hlt2 c).2 h)))
          go_wp2_with fail
          go_roundg (s.size + 1 - (j + 1))
          case measure => omega
          case rel => exact ⟨j + 1, f, d, by omega, by go_num, rfl, by omega, by omega, (by repeat (first | exact Ext.refl _ | assumption | refine Ext.alloc ?_ _ | refine Ext.drew ?_ | refine Ext.drewN ?_ _ | refine Ext.setCell ?_ (by first | (simp; done) | (simp; omega) | omega) _ | refine Ext.trans ?_ (by assumption))), Lib.hid (by rw [HL.out]; exact Hr.out.ext (by repeat (first | exact Ext.refl _ | assumption | refine Ext.alloc ?_ _ | refine Ext.drew ?_ | refine Ext.drewN ?_ _ | refine Ext.setCell ?_ (by first | (simp; done) | (simp; omega) | omega) _ | refine Ext.trans ?_ (by assumption)))), Lib.hid ⟨fun _ => Hl.out, fun h => absurd h (by omega)⟩⟩
    · have hd := Hi.out.2 (by omega)
      have hji : ¬ (j : Int) ≤ (s.size : Int) := by omega
      subst hd
      clear hml
      go_wp2_with fail
      go_ret
      rw [HL.out]
      exact ⟨A5, c5, rfl, (by repeat (first | exact Ext.refl _ | assumption | refine Ext.alloc ?_ _ | refine Ext.drew ?_ | refine Ext.drewN ?_ _ | refine Ext.setCell ?_ (by first | (simp; done) | (simp; omega) | omega) _ | refine Ext.trans ?_ (by assumption))), (Hr.out.ext (by repeat (first | exact Ext.refl _ | assumption | refine Ext.alloc ?_ _ | refine Ext.drew ?_ | refine Ext.drewN ?_ _ | refine Ext.setCell ?_ (by first | (simp; done) | (simp; omega) | omega) _ | refine Ext.trans ?_ (by assumption)))).rowsB⟩
theorem plF_take (l : Bs) (j : Nat) (h : j < l.length) : plF (l.take (j + 1)) 0 = (if 48 ≤ (l[j]).toNat ∧ (l[j]).toNat ≤ 57 then 10 * plF (l.take j) 0 + ((l[j]).toNat - 48) else plF (l.take j) 0) := by
  unfold plF
  rw [List.take_succ_eq_append_getElem h, List.foldl_append]
  rfl
theorem plF_lt (l : Bs) : ∀ j, plF (l.take j) 0 < 10 ^ j
  | 0 => by simp [plF]
  | j + 1 => by
    have ih := plF_lt l j
    have h10 : 10 ^ (j + 1) = 10 ^ j * 10 := Nat.pow_succ ..
    by_cases h : j < l.length
    · rw [plF_take l j h]
      split <;> omega
    · rw [List.take_of_length_le (by omega), ← List.take_of_length_le (l := l) (i := j) (by omega)]
      omega
set_option maxRecDepth 100000 in
set_option maxHeartbeats 4000000 in
theorem spec_l01Plain (s : ByteArray) (w : World) (hs : s.size ≤ 1048576) : Calls Tryz.prog 87 #[.string s] w (RetX (.int .i64 (plnN s.data.toList)) w) := by
  have hb := get_byt s
  go_enter Tryz.func87, Tryz.ntmps87
  go_wp2_with fail
  go_loopg [3, 4] 9 (fun q u3 u4 wr => ∃ (j : Nat), j + q = 9 ∧ j ≤ s.size ∧ u4 = .int .i64 j ∧ u3 = .int .i64 (plF (s.data.toList.take j) 0) ∧ Ext w wr)
  case atStart => exact ⟨0, by omega, by omega, rfl, rfl, (by repeat (first | exact Ext.refl _ | assumption | refine Ext.alloc ?_ _ | refine Ext.drew ?_ | refine Ext.drewN ?_ _ | refine Ext.setCell ?_ (by first | (simp; done) | (simp; omega) | omega) _ | refine Ext.trans ?_ (by assumption)))⟩
  case round =>
    obtain ⟨j, hj, hjs, rfl, rfl, hx⟩ := hrel
    have hj0 : (0 : Int) ≤ (j : Int) := by omega
    have hbd : plF (s.data.toList.take j) 0 < 1000000000 := Nat.lt_of_lt_of_le (plF_lt s.data.toList j) (Nat.pow_le_pow_right (by omega) (show j ≤ 9 by omega))
    by_cases hlt : j < s.size
    · have hji : (j : Int) < (s.size : Int) := by omega
      by_cases h9 : j < 9
      · have h9i : (j : Int) < 9 := by omega
        obtain ⟨hj1, hg⟩ := list_get s hlt
        have Hst := Lib.hid (plF_take s.data.toList j hj1)
        rw [hg] at Hst
        have hbe : byt s j = ((s[j]).toNat : Int) := (hb j hlt).symm
        have Hbe := Lib.hid hbe
        have h255 := byt_le s j
        generalize plF (s.data.toList.take j) 0 = m at *
        by_cases h1 : 48 ≤ byt s j
        · by_cases h2 : byt s j ≤ 57
          · have d1 : decide (byt s j ≥ 48) = true := decide_eq_true h1
            have d2 : decide (byt s j ≤ 57) = true := decide_eq_true h2
            have wr1 : IntKind.u8.wrap (byt s j - 48) = byt s j - 48 := by show (byt s j - 48) % 256 = _; omega
            have Hm := Lib.hid (show (plF (s.data.toList.take (j + 1)) 0 : Int) = 10 * (m : Int) + (byt s j - 48) from by rw [Hst.out, if_pos ⟨by have := Hbe.out; omega, by have := Hbe.out; omega⟩]; have := Hbe.out; omega)
            clear hbe
            go_wp2_with fail
            go_roundg (9 - (j + 1))
            case measure => omega
            case rel => exact ⟨j + 1, by omega, by omega, by go_num, by rw [Hm.out], (by repeat (first | exact Ext.refl _ | assumption | refine Ext.alloc ?_ _ | refine Ext.drew ?_ | refine Ext.drewN ?_ _ | refine Ext.setCell ?_ (by first | (simp; done) | (simp; omega) | omega) _ | refine Ext.trans ?_ (by assumption)))⟩
          · have d1 : decide (byt s j ≥ 48) = true := decide_eq_true h1
            have d2 : decide (byt s j ≤ 57) = false := decide_eq_false h2
            have Hm := Lib.hid (show (plF (s.data.toList.take (j + 1)) 0 : Int) = (m : Int) from by rw [Hst.out, if_neg (by have := Hbe.out; omega)])
            clear hbe
            go_wp2_with fail
            go_roundg (9 - (j + 1))
            case measure => omega
            case rel => exact ⟨j + 1, by omega, by omega, by go_num, by rw [Hm.out], (by repeat (first | exact Ext.refl _ | assumption | refine Ext.alloc ?_ _ | refine Ext.drew ?_ | refine Ext.drewN ?_ _ | refine Ext.setCell ?_ (by first | (simp; done) | (simp; omega) | omega) _ | refine Ext.trans ?_ (by assumption)))⟩
        · have d1 : decide (byt s j ≥ 48) = false := decide_eq_false h1
          have Hm := Lib.hid (show (plF (s.data.toList.take (j + 1)) 0 : Int) = (m : Int) from by rw [Hst.out, if_neg (by have := Hbe.out; omega)])
          clear hbe
          go_wp2_with fail
          go_roundg (9 - (j + 1))
          case measure => omega
          case rel => exact ⟨j + 1, by omega, by omega, by go_num, by rw [Hm.out], (by repeat (first | exact Ext.refl _ | assumption | refine Ext.alloc ?_ _ | refine Ext.drew ?_ | refine Ext.drewN ?_ _ | refine Ext.setCell ?_ (by first | (simp; done) | (simp; omega) | omega) _ | refine Ext.trans ?_ (by assumption)))⟩
      · obtain rfl : j = 9 := by omega
        have Hp := Lib.hid (show plnN s.data.toList = plF (s.data.toList.take 9) 0 from rfl)
        generalize plF (s.data.toList.take 9) 0 = m at *
        go_wp2_with fail
        go_ret
        exact ⟨by rw [Hp.out]; rfl, (by repeat (first | exact Ext.refl _ | assumption | refine Ext.alloc ?_ _ | refine Ext.drew ?_ | refine Ext.drewN ?_ _ | refine Ext.setCell ?_ (by first | (simp; done) | (simp; omega) | omega) _ | refine Ext.trans ?_ (by assumption)))⟩
    · obtain rfl : j = s.size := by omega
      have Hp := Lib.hid (show plnN s.data.toList = plF (s.data.toList.take s.size) 0 from by unfold plnN; rw [List.take_of_length_le (by simp; omega), List.take_of_length_le (by simp)])
      have hji : ¬ (s.size : Int) < (s.size : Int) := by omega
      generalize plF (s.data.toList.take s.size) 0 = m at *
      go_wp2_with fail
      go_ret
      exact ⟨by rw [Hp.out]; rfl, (by repeat (first | exact Ext.refl _ | assumption | refine Ext.alloc ?_ _ | refine Ext.drew ?_ | refine Ext.drewN ?_ _ | refine Ext.setCell ?_ (by first | (simp; done) | (simp; omega) | omega) _ | refine Ext.trans ?_ (by assumption)))⟩
end Go.Proofs.YtbddkmlfjghllaaGreatDoor

/- Contracts: the text of marks by the reference. -/
namespace Go.Proofs.YtbddkmlfjghllaaGreatDoor
set_option linter.unusedVariables false
set_option linter.unusedSimpArgs false
open Go.RowKit
attribute [local go_sem] cell_onto

def wordB (m : Nsp) : ByteArray := m.nm ++ ⟨#[58]⟩ ++ decB m.fr.toNat ++ ⟨#[46, 46]⟩ ++ decB m.to.toNat
theorem list_app (a b : ByteArray) : (a ++ b).data.toList = a.data.toList ++ b.data.toList := by
  rw [ByteArray.data_append, Array.toList_append]
theorem wordB_tx (m : Nsp) : wordB m = byL (txM m) := by
  refine bytes_ext ?_
  rw [byL_list]
  unfold wordB txM dd
  rw [list_app, list_app, list_app, list_app, decB_data, decB_data]
  simp
/-- words joined by a comma -/
theorem joinN_join (l : List Nsp) : ∀ k, 0 < k → k ≤ l.length → joinN (fun i => wordB (nspAt l i)) ⟨#[44]⟩ k = byL (joinC 44 ((l.take k).map txM))
  | 0, h, _ => absurd h (by omega)
  | 1, _, h => by
    rw [joinN_first]
    refine bytes_ext ?_
    rw [list_app, wordB_tx, byL_list, byL_list]
    have e : l.take 1 = [nspAt l 0] := by
      cases l with
      | nil => simp at h
      | cons a b => rfl
    rw [e]
    rfl
  | k + 2, _, h => by
    rw [joinN_next _ _ (by omega), joinN_join l (k + 1) (by omega) (by omega)]
    refine bytes_ext ?_
    rw [list_app, list_app, byL_list, byL_list, wordB_tx, byL_list]
    have e : l.take (k + 2) = l.take (k + 1) ++ [nspAt l (k + 1)] := by
      rw [List.take_succ_eq_append_getElem (by omega)]
      congr 2
      unfold nspAt
      rw [List.getD_eq_getElem?_getD, List.getElem?_eq_getElem (by omega)]
      rfl
    have hj : ∀ (a : List Bs) (x : Bs), a ≠ [] → joinC 44 (a ++ [x]) = joinC 44 a ++ 44 :: x := by
      intro a x
      induction a with
      | nil => intro h; exact absurd rfl h
      | cons b r ih =>
        intro _
        cases r with
        | nil => rfl
        | cons c r' =>
          show b ++ 44 :: joinC 44 ((c :: r') ++ [x]) = (b ++ 44 :: joinC 44 (c :: r')) ++ 44 :: x
          rw [ih (by simp), List.append_assoc]
          rfl
    rw [e, List.map_append, List.map_cons, List.map_nil, hj _ _ (fun e2 => by have := congrArg List.length e2; rw [List.length_map, List.length_take] at this; simp only [List.length_nil] at this; omega)]
    simp
theorem spec_l01Dec_i (x : Int) (w : World) (h0 : 0 ≤ x) (h : x ≤ 9223372036854775807) : Calls Tryz.prog 132 #[.int .i64 x] w (RetX (.string (decB x.toNat)) w) := by
  have hx : ((x.toNat : Nat) : Int) = x := by omega
  have := spec_l01Dec x.toNat w (by omega)
  rwa [hx] at this
theorem RowStr.cells {w : World} {base : Nat} {T : TypeId} {u : Value} {l : List ByteArray} (h : RowStr w base T u l) (h0 : 0 < l.length) :
    ∃ g cap, u = .slice (some ⟨g, 0, none⟩) l.length cap ∧ base ≤ g ∧ g < w.heap.size ∧ l.length ≤ cap ∧ ∀ k, k < l.length → w.cell? ⟨g, k, none⟩ = some (.string (strAt l k)) := by
  rcases h.2 with ⟨_, h1⟩ | ⟨g, cap, cur, rfl, hg, hgc, hcap, hmx, hsz, htk⟩
  · omega
  · have hrow : w.ownsRow base T 1 (.slice (some ⟨g, 0, none⟩) l.length cap) l.length (cellsOf (l.length * 1) (strCell l)) := h
    obtain ⟨g', hg', ho⟩ := Own.of_owned hrow
    obtain rfl : g = g' := by
      have := (hg' h0).1
      simpa [Value.ownBlock] using this
    obtain ⟨off, e, hlt, hc⟩ := ho.at_ h0
    obtain rfl : off = 0 := by injection e with e; injection e with _ e; exact e.symm
    refine ⟨g, cap, rfl, hg, hlt, hcap, fun k hk => ?_⟩
    obtain ⟨c1, _⟩ := hc k (by omega)
    rw [Nat.zero_add] at c1
    exact c1
set_option maxRecDepth 100000 in
set_option maxHeartbeats 8000000 in
theorem spec_l16Text (v : Value) (l : List Nsp) (w : World) (h : Nsps w 0 w.heap.size v l) (hok : MksOk l) : Calls Tryz.prog 81 #[v] w (RetX (.string (byL (txL l))) w) := by
  obtain ⟨A, c, rfl, hn, hc⟩ := h.len
  have H := Lib.hid h
  have Hok := Lib.hid hok
  have hl40 := hok.1
  clear h hok
  have Hrow0 := Lib.hid (RowStr.made w 9)
  go_enter Tryz.func81, Tryz.ntmps81
  go_wp2_with fail
  go_loopg [3, 4] l.length (fun q u3 i wr => ∃ j : Nat, j + q = l.length ∧ i = .int .i64 j ∧ Ext w wr ∧ Hid (RowStr wr w.heap.size 9 u3 ((l.take j).map wordB)))
  case atStart => exact ⟨0, by omega, rfl, (by repeat (first | exact Ext.refl _ | assumption | refine Ext.alloc ?_ _ | refine Ext.drew ?_ | refine Ext.drewN ?_ _ | refine Ext.setCell ?_ (by first | (simp; done) | (simp; omega) | omega) _ | refine Ext.trans ?_ (by assumption))), Hrow0⟩
  clear Hrow0
  case round =>
    obtain ⟨j, hj, rfl, hx, Hr⟩ := hrel
    obtain ⟨L, hL⟩ : ∃ L, (l.take j).map wordB = L := ⟨_, rfl⟩
    have hml : L.length = j := by rw [← hL]; simp; omega
    rw [hL] at Hr
    have HL := Lib.hid hL
    have Hml := Lib.hid hml
    clear hL
    obtain ⟨A3, c3, rfl⟩ := ownsRow_len Hr.out
    have hz := hx.size
    by_cases hlt : j < l.length
    · obtain ⟨b, off, rfl, _, hb, h1, h2, h3⟩ := H.out.at_ hlt
      have r1 := (hx.cell (p := ⟨b, off + j * 3, none⟩) hb).trans h1
      have r2 := (hx.cell (p := ⟨b, off + j * 3 + 1, none⟩) hb).trans h2
      have r3 := (hx.cell (p := ⟨b, off + j * 3 + 2, none⟩) hb).trans h3
      have hbr : b < wr.heap.size := Nat.lt_of_lt_of_le hb hx.size
      have hj0 : (0 : Int) ≤ (j : Int) := by omega
      have hji : (j : Int) < (l.length : Int) := by omega
      obtain ⟨⟨⟨_, hsz, _⟩, ⟨f0, f1⟩, ⟨t0, t1⟩, _⟩, _⟩ := Hok.out.2 j hlt
      have hd1 := decB_size (nspAt l j).fr.toNat
      have hd2 := decB_size (nspAt l j).to.toNat
      have hs0 : ¬ 9223372036854775806 < (nspAt l j).nm.size := by omega
      have hs4 : ¬ 9223372036854775807 < (nspAt l j).nm.size + 1 := by omega
      have hs5 : ¬ 9223372036854775807 < (nspAt l j).nm.size + 1 + (decB (nspAt l j).fr.toNat).size + 2 := by omega
      have hs1 : ¬ 9223372036854775807 < (nspAt l j).nm.size + 1 + (decB (nspAt l j).fr.toNat).size := by omega
      have hs2 : ¬ 9223372036854775805 < (nspAt l j).nm.size + 1 + (decB (nspAt l j).fr.toNat).size := by omega
      have hs3 : ¬ 9223372036854775807 < (nspAt l j).nm.size + 1 + (decB (nspAt l j).fr.toNat).size + 2 + (decB (nspAt l j).to.toNat).size := by omega
      have Hm := Lib.hid (show (l.take (j + 1)).map wordB = L ++ [wordB (nspAt l j)] from by
        rw [← HL.out, List.take_succ_eq_append_getElem hlt, List.map_append]
        congr 2
        unfold nspAt
        rw [List.getD_eq_getElem?_getD, List.getElem?_eq_getElem hlt]
        rfl)
      have Hsrc : Hid (∀ W, Row (World.alloc W (.cells #[.string (wordB (nspAt l j))] 9)) 0 (World.alloc W (.cells #[.string (wordB (nspAt l j))] 9)).heap.size 1 (.slice (some ⟨W.heap.size, 0, none⟩) 1 1) 1 (strCell [wordB (nspAt l j)])) := Lib.hid (fun W => (Boxed.new W [.string (wordB (nspAt l j))] 9).row rfl (fun i hi => by simp at hi; subst hi; rfl))
      have hw : (nspAt l j).nm ++ ⟨#[58]⟩ ++ decB (nspAt l j).fr.toNat ++ ⟨#[46, 46]⟩ ++ decB (nspAt l j).to.toNat = wordB (nspAt l j) := rfl
      have hml40 : L.length ≤ 40 := by omega
      clear hml
      go_upto_region 5 with fail
      go_region_held3 (fun w' => w'.cell? ⟨b, off + j * 3, none⟩ = some (.string (nspAt l j).nm) ∧ w'.cell? ⟨b, off + j * 3 + 1, none⟩ = some (.int .i64 (nspAt l j).fr) ∧ w'.cell? ⟨b, off + j * 3 + 2, none⟩ = some (.int .i64 (nspAt l j).to) ∧ Ext w w')
        (exact Ext.and_cell hb h1 (by repeat (first | exact Ext.refl _ | assumption | refine Ext.alloc ?_ _ | refine Ext.drew ?_ | refine Ext.drewN ?_ _ | refine Ext.setCell ?_ (by first | (simp; done) | (simp; omega) | omega) _ | refine Ext.trans ?_ (by assumption))) (Ext.and_cell hb h2 (by repeat (first | exact Ext.refl _ | assumption | refine Ext.alloc ?_ _ | refine Ext.drew ?_ | refine Ext.drewN ?_ _ | refine Ext.setCell ?_ (by first | (simp; done) | (simp; omega) | omega) _ | refine Ext.trans ?_ (by assumption))) (Ext.and_cell hb h3 (by repeat (first | exact Ext.refl _ | assumption | refine Ext.alloc ?_ _ | refine Ext.drew ?_ | refine Ext.drewN ?_ _ | refine Ext.setCell ?_ (by first | (simp; done) | (simp; omega) | omega) _ | refine Ext.trans ?_ (by assumption))) (by repeat (first | exact Ext.refl _ | assumption | refine Ext.alloc ?_ _ | refine Ext.drew ?_ | refine Ext.drewN ?_ _ | refine Ext.setCell ?_ (by first | (simp; done) | (simp; omega) | omega) _ | refine Ext.trans ?_ (by assumption))))))
        ((first
          | (go_at_call 132; refine Calls.mono (spec_l01Dec_i _ _ (by omega) (by omega)) ?_; rintro e w5 ⟨rfl, hx5⟩; have hz5 := hx5.size; (try simp at hz5))
          | (refine step_append_row rfl (.tmp 12) (.tmp 34) 35 rfl w.heap.size 9 1 16 Tryz.underlying35 (by kernel_rfl) (by omega) _ L.length 1 _ rfl (.inl (row_ext Hr.out (by repeat (first | exact Ext.refl _ | assumption | refine Ext.alloc ?_ _ | refine Ext.drew ?_ | refine Ext.drewN ?_ _ | refine Ext.setCell ?_ (by first | (simp; done) | (simp; omega) | omega) _ | refine Ext.trans ?_ (by assumption))))) (.inr (by omega)) 0 _ _ (strCell [wordB (nspAt l j)]) rfl (Hsrc.out _) (fun i _ => strCell_one _ i) (by unfold maxLen; omega) (by omega) (by simp; omega) ?_; intro v5 w6 hown5 hput5; have Hrow5 := Lib.hid (RowStr.push hown5); have hx6 := (hput5.ext (show Ext w _ from (by repeat (first | exact Ext.refl _ | assumption | refine Ext.alloc ?_ _ | refine Ext.drew ?_ | refine Ext.drewN ?_ _ | refine Ext.setCell ?_ (by first | (simp; done) | (simp; omega) | omega) _ | refine Ext.trans ?_ (by assumption)))) (Nat.le_refl _)); clear hown5 hput5)))
      all_goals
        go_wp2_with fail
        go_roundg (l.length - (j + 1))
        case measure => omega
        case rel => exact ⟨j + 1, by omega, by go_num, (by repeat (first | exact Ext.refl _ | assumption | refine Ext.alloc ?_ _ | refine Ext.drew ?_ | refine Ext.drewN ?_ _ | refine Ext.setCell ?_ (by first | (simp; done) | (simp; omega) | omega) _ | refine Ext.trans ?_ (by assumption))), Lib.hid (by rw [Hm.out]; exact Hrow5.out)⟩
    · obtain rfl : j = l.length := by omega
      have hLl := HL.out
      rw [List.take_length] at hLl
      have Hll := Lib.hid hLl
      by_cases h0 : 0 < l.length
      · obtain ⟨g, cap, hv, hg, hgw, hcap, hcell⟩ := Hr.out.cells (by omega)
        injection hv with e1 e2 e3
        subst e1 e3
        have Hcell := Lib.hid hcell
        have hl0 : ¬ (l.length : Int) = 0 := by omega
        have Hj := Lib.hid (show joinN (fun i => wordB (nspAt l i)) ⟨#[44]⟩ l.length = byL (txL l) from by
          rw [joinN_join l l.length h0 (Nat.le_refl _), List.take_length]
          unfold txL
          rw [if_neg (fun e => by subst e; simp at h0)])
        have Hf := Lib.hid (fun i (hi : i < l.length) => show (wordB (nspAt l i)).size ≤ 1000000 from by
          obtain ⟨⟨⟨_, hsz, _⟩, hf, ht, _⟩, _⟩ := Hok.out.2 i hi
          have hd1 : (decB (nspAt l i).fr.toNat).size ≤ 9 := dig_len 9 _ (by omega) (nat_day hf).2.1
          have hd2 : (decB (nspAt l i).to.toNat).size ≤ 9 := dig_len 9 _ (by omega) (nat_day ht).2.1
          unfold wordB
          rw [ByteArray.size_append, ByteArray.size_append, ByteArray.size_append, ByteArray.size_append]
          have e1 : (⟨#[58]⟩ : ByteArray).size = 1 := rfl
          have e2 : (⟨#[46, 46]⟩ : ByteArray).size = 2 := rfl
          omega)
        have hgz := Lib.hid hgw
        rw [hml] at *
        clear hml hcell hLl
        go_wp2_with fail
        refine Calls.mono (spec_l01Join g l.length c3 (fun i => wordB (nspAt l i)) ⟨#[44]⟩ _ (by omega) (by omega) (by have := hgz.out; simpa using this) (fun i hi => ?_) (by decide) Hf.out) ?_
        · have h9 := Hcell.out i hi
          rw [← Hll.out] at h9
          have e9 : strAt (l.map wordB) i = wordB (nspAt l i) := by
            unfold strAt nspAt
            rw [List.getD_eq_getElem?_getD, List.getD_eq_getElem?_getD, List.getElem?_map, List.getElem?_eq_getElem hi]
            rfl
          rw [e9] at h9
          simpa using h9
        rintro e w1 ⟨rfl, hx1⟩
        rw [Hj.out]
        go_wp2_with fail
        go_ret
        exact ⟨rfl, (by repeat (first | exact Ext.refl _ | assumption | refine Ext.alloc ?_ _ | refine Ext.drew ?_ | refine Ext.drewN ?_ _ | refine Ext.setCell ?_ (by first | (simp; done) | (simp; omega) | omega) _ | refine Ext.trans ?_ (by assumption)))⟩
      · have hz0 : l = [] := List.eq_nil_of_length_eq_zero (by omega)
        subst hz0
        have hL0 : L = [] := by rw [← hLl]; rfl
        subst hL0
        go_wp2_with fail
        go_ret
        exact ⟨rfl, (by repeat (first | exact Ext.refl _ | assumption | refine Ext.alloc ?_ _ | refine Ext.drew ?_ | refine Ext.drewN ?_ _ | refine Ext.setCell ?_ (by first | (simp; done) | (simp; omega) | omega) _ | refine Ext.trans ?_ (by assumption)))⟩
end Go.Proofs.YtbddkmlfjghllaaGreatDoor
