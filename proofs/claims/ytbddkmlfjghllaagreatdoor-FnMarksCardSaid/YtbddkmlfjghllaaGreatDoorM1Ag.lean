/- Contracts: MarksOn, the program's and the reference's. (Printed by genAf.py.) -/
import Derived.Test.YtbddkmlfjghllaaGreatDoorT1Jc
import Derived.Test.YtbddkmlfjghllaaGreatDoorT1Aa
import Derived.Test.YtbddkmlfjghllaaGreatDoorM1Us
import Derived.Lib.RowBridge
import Derived.Test.YtbddkmlfjghllaaGreatDoorT1Ke
import Derived.Test.YtbddkmlfjghllaaGreatDoorT1Jt
import Derived.Test.YtbddkmlfjghllaaGreatDoorLaK
import Derived.Deep.RegionLaw
import Derived.IntWalk
namespace Go.Proofs.YtbddkmlfjghllaaGreatDoor
set_option linter.unusedVariables false
set_option linter.unusedSimpArgs false
open Go.RowKit
attribute [local go_sem] cell_onto

theorem strAt_mem {l : List ByteArray} {x : ByteArray} : x ∈ l ↔ ∃ i, i < l.length ∧ strAt l i = x := by
  rw [List.mem_iff_getElem]
  constructor
  · rintro ⟨i, hi, rfl⟩
    exact ⟨i, hi, by unfold strAt; rw [List.getD_eq_getElem?_getD, List.getElem?_eq_getElem hi]; rfl⟩
  · rintro ⟨i, hi, rfl⟩
    exact ⟨i, hi, by unfold strAt; rw [List.getD_eq_getElem?_getD, List.getElem?_eq_getElem hi]; rfl⟩
theorem ix_mem {l : List ByteArray} {x : ByteArray} (h : x ∈ l) : 0 ≤ fstIx (fun i => strAt l i = x) l.length := by
  rcases fstIx_cases (fun i => strAt l i = x) l.length with ⟨_, h2⟩ | ⟨j, _, h2, _⟩
  · obtain ⟨i, hi, e⟩ := strAt_mem.1 h
    exact absurd e (h2 i hi)
  · rw [h2]; omega
theorem ix_mem_no {l : List ByteArray} {x : ByteArray} (h : ¬ x ∈ l) : fstIx (fun i => strAt l i = x) l.length = -1 :=
  fstIx_none _ (fun i hi e => h (strAt_mem.2 ⟨i, hi, e⟩))
theorem strs_inj : ∀ {a b : List ByteArray}, a.map (fun s => s.data.toList) = b.map (fun s => s.data.toList) → a = b
  | [], [], _ => rfl
  | [], _ :: _, h => by cases h
  | _ :: _, [], h => by cases h
  | x :: a, y :: b, h => by
    simp only [List.map_cons, List.cons.injEq] at h
    rw [bytes_ext h.1, strs_inj h.2]
/-- two results: texts, and a code -/
def NewStrD (l : List ByteArray) (e0 : Int) (w : World) (e : Ending) (w' : World) : Prop :=
  ∃ v, e = .returned (.tuple #[v, .int .i64 e0]) ∧ Ext w w' ∧ Strs w' 0 w'.heap.size v l
theorem NewStrD.nil (e0 : Int) {w w' : World} (h : Ext w w') : NewStrD [] e0 w (.returned (.tuple #[.slice none 0 0, .int .i64 e0])) w' :=
  ⟨_, rfl, h, Nat.zero_le _, none, 0, rfl, Nat.le_refl _, fun h => absurd h (by simp)⟩
theorem NewStrD.of {T : TypeId} {l : List ByteArray} {e0 : Int} {w w' : World} {v : Value} {base : Nat} (h : Ext w w') (hr : RowStr w' base T v l) : NewStrD l e0 w (.returned (.tuple #[v, .int .i64 e0])) w' :=
  ⟨v, rfl, h, hr.rows⟩
theorem row_cut {w : World} {base n k cap g : Nat} {e : TypeId} {xs : List Value} (h : w.ownsRow base e 1 (.slice (some ⟨g, 0, none⟩) n cap) n xs) (hk : k ≤ n) : w.ownsRow base e 1 (.slice (some ⟨g, 0, none⟩) k cap) k (xs.take k) := by
  obtain ⟨h1, h2⟩ := h
  refine ⟨by rw [List.length_take]; omega, ?_⟩
  rcases h2 with ⟨h2, _⟩ | ⟨g', cap', cur, e1, h3, h4, h5, h6, h7, h8⟩
  · cases h2
  · injection e1 with e1 _ e3
    injection e1 with e1
    injection e1 with e1
    subst e1 e3
    refine .inr ⟨g, cap, cur, rfl, h3, h4, by omega, h6, h7, ?_⟩
    rw [← h8, List.take_take, show min k (n * 1) = k * 1 by omega]
/-- the library's Compact at a row of strings of the call's own -/
theorem compact_strs (v : Value) (l : List ByteArray) (base : Nat) (w : World) (h : RowStr w base 9 v l) (hl : l.length ≤ 1048576) :
    Calls Tryz.prog 55 #[v] w (fun e w' => ∃ u ss, e = .returned u ∧ ss.map (fun s : ByteArray => s.data.toList) = Lib.compact (l.map (fun s => s.data.toList)) ∧ RowStr w' base 9 u ss ∧ ∀ w0, Ext w0 w → w0.heap.size ≤ base → Ext w0 w') := by
  rcases h.2 with ⟨rfl, h0⟩ | ⟨g, cap, cur, rfl, hg, hh, hle, _⟩
  · obtain rfl : l = [] := List.length_eq_zero_iff.1 h0
    refine Calls.mono (Any.slices_Compact_string_empty Tryz.compL none 0 w) ?_
    rintro e w' ⟨rfl, rfl⟩
    exact ⟨_, [], rfl, by decide, h, fun _ hx _ => hx⟩
  · have hcl : ∀ i, i < l.length → w.cell? ⟨g, i, none⟩ = some (.string (strAt l i)) ∧ w.frozen? ⟨g, i, none⟩ = false := fun i hi => by
      have k1 := World.ownsRow.cellAt h i (by omega)
      rw [cellsOf_at (by omega)] at k1
      exact ⟨k1, World.ownsRow.frozenAt h i⟩
    have hgd : ∀ i, i < l.length → (l.map (fun s : ByteArray => s.data.toList)).toArray[i]! = (strAt l i).data.toList := fun i hi => by
      rw [getElem!_pos _ i (by simpa using hi)]
      unfold strAt
      rw [List.getD_eq_getElem?_getD, List.getElem?_eq_getElem hi]
      simp
    have hH : Go.Sort.Holds encStr w g 0 (l.map (fun s : ByteArray => s.data.toList)).toArray := by
      intro j hj
      have hj' : j < l.length := by simpa using hj
      rw [hgd j hj', Nat.zero_add]
      exact hcl j hj'
    have hcon := Any.slices_Compact_string Tryz.compL g 0 cap (l.map (fun s : ByteArray => s.data.toList)) w hH (by simp; omega) (by simpa using hle)
    rw [List.length_map] at hcon
    refine Calls.mono hcon ?_
    rintro e w' ⟨rfl, q, rfl⟩
    obtain ⟨ys, hys⟩ : ∃ ys, Lib.compact (l.map (fun s : ByteArray => s.data.toList)) = ys := ⟨_, rfl⟩
    have hyl : ys.length ≤ l.length := by
      rw [← hys]
      unfold Lib.compact Lib.compactUpTo
      rw [List.length_map]
      have := List.length_filter_le (Lib.keeps (l.map (fun s : ByteArray => s.data.toList)).toArray) (List.range (l.map (fun s : ByteArray => s.data.toList)).length)
      simpa using this
    rw [hys]
    have e2 := Lib.putRow_eq_setCells (fun z : List UInt8 => encStr z) w g 0 (l.map (fun s : ByteArray => s.data.toList)).toArray (ys ++ List.replicate (l.length - ys.length) []) q hH (by simp; omega)
    refine ⟨_, ys.map byL, rfl, by rw [List.map_map]; exact (List.map_id' ys : _), ?_, fun w0 hx hg0 => ?_⟩
    · rw [e2]
      have h2 : (w.drewN q).ownsRow base 9 1 (.slice (some ⟨g, 0, none⟩) l.length cap) l.length (cellsOf (l.length * 1) (strCell l)) := row_ext h ((Ext.refl w).drewN q)
      have h3 := ownsRow_storedL ((ys ++ List.replicate (l.length - ys.length) []).map (fun z : List UInt8 => encStr z)) 0 _ _ h2
      rw [setL_all _ _ (by rw [cellsOf_len]; simp; omega)] at h3
      have h4 := row_cut h3 hyl
      have e5 : (ys.map byL).length = ys.length := by simp
      unfold RowStr
      rw [e5]
      have e6 : ((ys ++ List.replicate (l.length - ys.length) []).map (fun z : List UInt8 => encStr z)).take ys.length = cellsOf (ys.length * 1) (strCell (ys.map byL)) := by
        rw [List.map_append, List.take_append_of_le_length (by simp), List.take_of_length_le (by simp)]
        refine List.ext_getElem? (fun i => ?_)
        by_cases hi : i < ys.length
        · rw [cellsOf_at (by omega), List.getElem?_map, List.getElem?_eq_getElem hi]
          unfold strCell
          rw [strAt_map, List.getD_eq_getElem?_getD, List.getElem?_eq_getElem hi]
          rfl
        · rw [List.getElem?_eq_none (by simp; omega), List.getElem?_eq_none (by rw [cellsOf_len]; omega)]
      rw [e6] at h4
      exact h4
    · rw [e2]
      exact (hx.drewN q).setCells (by omega) _ 0
set_option maxRecDepth 100000 in
set_option maxHeartbeats 4000000 in
theorem impl_MarksOn (v : Value) (l : List Nsp) (n : Int) (w : World) (h : Nsps w 0 w.heap.size v l) : Calls Tryz.prog 14 #[v, .int .i64 n] w (NewStrD (mkoL l n) (mkoE l n) w) := by
  obtain ⟨A, c, rfl, hn, hc⟩ := h.len
  have H := Lib.hid h
  clear h
  go_enter Tryz.func14, Tryz.ntmps14
  go_wp2_with fail
  refine Calls.mono (impl_AreMarks _ l _ H.out) ?_
  rintro e w1 ⟨rfl, hx1⟩
  by_cases hok : MksOk l
  case neg =>
    obtain ⟨m1, m2⟩ := mko_no (n := n) hok
    rw [B_false hok]
    have Hm := Lib.hid (And.intro m1 m2)
    clear m1 m2
    go_wp2_with fail
    go_ret2
    rw [Hm.out.1, Hm.out.2]
    exact NewStrD.nil 1 (by repeat (first | exact Ext.refl _ | assumption | refine Ext.alloc ?_ _ | refine Ext.drew ?_ | refine Ext.drewN ?_ _ | refine Ext.setCell ?_ (by first | (simp; done) | (simp; omega) | omega) _ | refine Ext.trans ?_ (by assumption)))
  rw [B_true hok]
  have Hok := Lib.hid hok
  have hl40 := hok.1
  by_cases hd : DayOk n
  case neg =>
    obtain ⟨m1, m2⟩ := mko_day hok hd
    have Hm := Lib.hid (And.intro m1 m2)
    have Hd := Lib.hid (B_false hd)
    clear m1 m2 hok hd
    go_wp2_with fail
    refine Calls.mono (impl_isDay_b Hd.out _) ?_
    rintro e w2 ⟨rfl, rfl⟩
    go_wp2_with fail
    go_ret2
    rw [Hm.out.1, Hm.out.2]
    exact NewStrD.nil 2 (by repeat (first | exact Ext.refl _ | assumption | refine Ext.alloc ?_ _ | refine Ext.drew ?_ | refine Ext.drewN ?_ _ | refine Ext.setCell ?_ (by first | (simp; done) | (simp; omega) | omega) _ | refine Ext.trans ?_ (by assumption)))
  obtain ⟨m1, m2⟩ := mko_ok hok hd
  have Hm := Lib.hid (And.intro m1 m2)
  have Hd := Lib.hid (B_true hd)
  clear m1 m2 hok hd
  go_wp2_with fail
  refine Calls.mono (impl_isDay_b Hd.out _) ?_
  rintro e w2 ⟨rfl, rfl⟩
  have Hrow0 := Lib.hid (RowStr.made w1 9)
  go_wp2_with fail
  go_loopg [6, 8, 20] l.length (fun q u6 u8 i wr => ∃ j : Nat, j + q = l.length ∧ i = .int .i64 j ∧ Ext w1 wr ∧ Hid (RowStr wr w1.heap.size 9 u6 (onA l n j)))
  case atStart => exact ⟨0, by omega, rfl, (by repeat (first | exact Ext.refl _ | assumption | refine Ext.alloc ?_ _ | refine Ext.drew ?_ | refine Ext.drewN ?_ _ | refine Ext.setCell ?_ (by first | (simp; done) | (simp; omega) | omega) _ | refine Ext.trans ?_ (by assumption))), Hrow0⟩
  clear Hrow0
  case round =>
    obtain ⟨j, hj, rfl, hx, Hr⟩ := hrel
    obtain ⟨A6, c6, rfl⟩ := ownsRow_len Hr.out
    have hxw := hx1.trans hx
    by_cases hlt : j < l.length
    · obtain ⟨b, off, rfl, _, hb, h1, h2, h3⟩ := (H.out.ext hxw (Nat.le_refl _)).at_ hlt
      have hbr : b < wr.heap.size := Nat.lt_of_lt_of_le hb hxw.size
      have hml := onA_len l n j
      have hz := hx.size
      have Hmk := Lib.hid (Boxed.new wr [.string (nspAt l j).nm, .int .i64 (nspAt l j).fr, .int .i64 (nspAt l j).to] 88)
      by_cases hcv : Cov l n j
      · have Hw := Lib.hid (B_true hcv)
        have He := Lib.hid (onA_yes hcv)
        clear hcv
        go_wp2_with fail
        refine Calls.mono (impl_within_k Hw.out _) ?_
        rintro e w3 ⟨rfl, rfl⟩
        have Hsrc : Hid (Row ((wr.alloc (.cells #[.string (nspAt l j).nm, .int .i64 (nspAt l j).fr, .int .i64 (nspAt l j).to] 88)).alloc (.cells #[.string (nspAt l j).nm] 9)) 0 (wr.heap.size + 1 + 1) 1 (.slice (some ⟨wr.heap.size + 1, 0, none⟩) 1 1) 1 (strCell [(nspAt l j).nm])) := Lib.hid (by
          have h := (Boxed.new (wr.alloc (.cells #[.string (nspAt l j).nm, .int .i64 (nspAt l j).fr, .int .i64 (nspAt l j).to] 88)) [.string (nspAt l j).nm] 9).row (f := strCell [(nspAt l j).nm]) rfl (fun i hi => by
            have hi : i < 1 := hi
            obtain rfl : i = 0 := by omega
            rfl)
          simp only [World.size_alloc] at h
          exact h)
        go_wp2_with (at_builtin; refine wpList_append_row _ rfl _ _ 35 rfl w1.heap.size 9 1 16 Tryz.underlying35 (by kernel_rfl) (by omega) _ (onA l n j).length 1 _ rfl (.inl (row_ext Hr.out (by repeat (first | exact Ext.refl _ | assumption | refine Ext.alloc ?_ _ | refine Ext.drew ?_ | refine Ext.drewN ?_ _ | refine Ext.setCell ?_ (by first | (simp; done) | (simp; omega) | omega) _ | refine Ext.trans ?_ (by assumption))))) (.inr (by omega)) 0 _ _ (strCell [(nspAt l j).nm]) rfl Hsrc.out (fun i _ => strCell_one _ i) (by unfold maxLen; omega) (by omega) (by simp; omega) ?_; intro v7 w7 hown7 hput7; have Hrow7 := Lib.hid (RowStr.push hown7); have Hx7 := Lib.hid (hput7.ext (show Ext w1 _ from (by repeat (first | exact Ext.refl _ | assumption | refine Ext.alloc ?_ _ | refine Ext.drew ?_ | refine Ext.drewN ?_ _ | refine Ext.setCell ?_ (by first | (simp; done) | (simp; omega) | omega) _ | refine Ext.trans ?_ (by assumption)))) (Nat.le_refl _)); clear hown7 hput7)
        go_roundg (l.length - (j + 1))
        case measure => omega
        case rel => exact ⟨j + 1, by omega, by go_num, Hx7.out, Lib.hid (by rw [He.out]; exact Hrow7.out)⟩
      · have Hw := Lib.hid (B_false hcv)
        have He := Lib.hid (onA_no hcv)
        clear hcv
        go_wp2_with fail
        refine Calls.mono (impl_within_k Hw.out _) ?_
        rintro e w3 ⟨rfl, rfl⟩
        go_wp2_with fail
        go_roundg (l.length - (j + 1))
        case measure => omega
        case rel => exact ⟨j + 1, by omega, by go_num, (by repeat (first | exact Ext.refl _ | assumption | refine Ext.alloc ?_ _ | refine Ext.drew ?_ | refine Ext.drewN ?_ _ | refine Ext.setCell ?_ (by first | (simp; done) | (simp; omega) | omega) _ | refine Ext.trans ?_ (by assumption))), Lib.hid (by rw [He.out]; exact Hr.out.ext (by repeat (first | exact Ext.refl _ | assumption | refine Ext.alloc ?_ _ | refine Ext.drew ?_ | refine Ext.drewN ?_ _ | refine Ext.setCell ?_ (by first | (simp; done) | (simp; omega) | omega) _ | refine Ext.trans ?_ (by assumption))))⟩
    · obtain rfl : j = l.length := by omega
      have Hn := Lib.hid (on_compact (mks_names Hok.out) (n := n) l.length (Nat.le_refl _))
      have hal := onA_len l n l.length
      go_wp2_with fail
      refine Calls.mono (compact_strs _ _ _ _ (Hr.out) (by omega)) ?_
      rintro e w4 ⟨u, ss, rfl, hss, hr4, hx4⟩
      have hxw4 := hx4 w1 hx (Nat.le_refl _)
      have Hr4 := Lib.hid hr4
      have Hss := Lib.hid hss
      clear hr4 hss hx4
      go_wp2_with fail
      go_ret2
      rw [Hm.out.1, Hm.out.2]
      have e : ss = onO l n l.length := by
        have h1 := Hss.out
        rw [Hn.out] at h1
        exact strs_inj h1
      rw [← e]
      exact NewStrD.of (by repeat (first | exact Ext.refl _ | assumption | refine Ext.alloc ?_ _ | refine Ext.drew ?_ | refine Ext.drewN ?_ _ | refine Ext.setCell ?_ (by first | (simp; done) | (simp; omega) | omega) _ | refine Ext.trans ?_ (by assumption))) Hr4.out
set_option maxRecDepth 100000 in
set_option maxHeartbeats 4000000 in
theorem spec_MarksOn (v : Value) (l : List Nsp) (n : Int) (w : World) (h : Nsps w 0 w.heap.size v l) (hsm : NSm l) : Calls Tryz.prog 15 #[v, .int .i64 n] w (NewStrD (mkoL l n) (mkoE l n) w) := by
  obtain ⟨A, c, rfl, hn, hc⟩ := h.len
  have H := Lib.hid h
  clear h
  go_enter Tryz.func15, Tryz.ntmps15
  go_wp2_with fail
  refine Calls.mono (spec_AreMarks _ l _ H.out hsm) ?_
  rintro e w1 ⟨rfl, hx1⟩
  by_cases hok : MksOk l
  case neg =>
    obtain ⟨m1, m2⟩ := mko_no (n := n) hok
    rw [B_false hok]
    have Hm := Lib.hid (And.intro m1 m2)
    clear m1 m2
    go_wp2_with fail
    go_ret2
    rw [Hm.out.1, Hm.out.2]
    exact NewStrD.nil 1 (by repeat (first | exact Ext.refl _ | assumption | refine Ext.alloc ?_ _ | refine Ext.drew ?_ | refine Ext.drewN ?_ _ | refine Ext.setCell ?_ (by first | (simp; done) | (simp; omega) | omega) _ | refine Ext.trans ?_ (by assumption)))
  rw [B_true hok]
  have Hok := Lib.hid hok
  have hl40 := hok.1
  by_cases hd : DayOk n
  case neg =>
    obtain ⟨m1, m2⟩ := mko_day hok hd
    have Hm := Lib.hid (And.intro m1 m2)
    have Hd := Lib.hid (B_false hd)
    clear m1 m2 hok hd
    go_wp2_with fail
    refine Calls.mono (spec_l01Day_b Hd.out _) ?_
    rintro e w2 ⟨rfl, rfl⟩
    go_wp2_with fail
    go_ret2
    rw [Hm.out.1, Hm.out.2]
    exact NewStrD.nil 2 (by repeat (first | exact Ext.refl _ | assumption | refine Ext.alloc ?_ _ | refine Ext.drew ?_ | refine Ext.drewN ?_ _ | refine Ext.setCell ?_ (by first | (simp; done) | (simp; omega) | omega) _ | refine Ext.trans ?_ (by assumption)))
  obtain ⟨m1, m2⟩ := mko_ok hok hd
  have Hm := Lib.hid (And.intro m1 m2)
  have Hd := Lib.hid (B_true hd)
  clear m1 m2 hok hd
  go_wp2_with fail
  refine Calls.mono (spec_l01Day_b Hd.out _) ?_
  rintro e w2 ⟨rfl, rfl⟩
  have Hrow0 := Lib.hid (RowStr.made w1 9)
  go_wp2_with fail
  go_loopg [6, 7] l.length (fun q u6 i wr => ∃ j : Nat, j + q = l.length ∧ i = .int .i64 j ∧ Ext w1 wr ∧ Hid (RowStr wr w1.heap.size 9 u6 (onO l n j)))
  case atStart => exact ⟨0, by omega, rfl, (by repeat (first | exact Ext.refl _ | assumption | refine Ext.alloc ?_ _ | refine Ext.drew ?_ | refine Ext.drewN ?_ _ | refine Ext.setCell ?_ (by first | (simp; done) | (simp; omega) | omega) _ | refine Ext.trans ?_ (by assumption))), Hrow0⟩
  clear Hrow0
  case round =>
    obtain ⟨j, hj, rfl, hx, Hr⟩ := hrel
    obtain ⟨A6, c6, rfl⟩ := ownsRow_len Hr.out
    have hxw := hx1.trans hx
    by_cases hlt : j < l.length
    · obtain ⟨b, off, rfl, _, hb, h1, h2, h3⟩ := (H.out.ext hxw (Nat.le_refl _)).at_ hlt
      have hbr : b < wr.heap.size := Nat.lt_of_lt_of_le hb hxw.size
      have hml := onO_len l n j
      have hz := hx.size
      have Hin := Lib.hid (fun W => spec_l01In n (nspAt l j).fr (nspAt l j).to W)
      have Htx := Lib.hid (fun W (hX : Ext wr W) => spec_l01Text _ _ (nspAt l j).nm W (Hr.out.ext hX).rows)
      by_cases hcv : Cov l n j
      · have Hw := Lib.hid (B_true hcv)
        by_cases hm : (nspAt l j).nm ∈ onO l n j
        · have He := Lib.hid (onO_had hcv hm)
          have hix := ix_mem hm
          generalize fstIx (fun i => strAt (onO l n j) i = (nspAt l j).nm) (onO l n j).length = z at *
          have T1 : decide (z < 0) = false := decide_eq_false (by omega)
          clear hcv hm
          go_wp2_with fail
          (refine wp_region_onto prog_mixed (by kernel_rfl) ?_; (repeat (go_big_quiet_step ((first | (go_at_call 51; exact onto_callS (spec_l01In_k Hw.out _)) | (go_at_call 56; exact onto_callX (Htx.out _ (onto_ext _ _))))))); refine onto_end ?_; intro w3 hx3)
          go_wp2_with fail
          go_roundg (l.length - (j + 1))
          case measure => omega
          case rel => exact ⟨j + 1, by omega, by go_num, (by repeat (first | exact Ext.refl _ | assumption | refine Ext.alloc ?_ _ | refine Ext.drew ?_ | refine Ext.drewN ?_ _ | refine Ext.setCell ?_ (by first | (simp; done) | (simp; omega) | omega) _ | refine Ext.trans ?_ (by assumption))), Lib.hid (by rw [He.out]; exact Hr.out.ext (by repeat (first | exact Ext.refl _ | assumption | refine Ext.alloc ?_ _ | refine Ext.drew ?_ | refine Ext.drewN ?_ _ | refine Ext.setCell ?_ (by first | (simp; done) | (simp; omega) | omega) _ | refine Ext.trans ?_ (by assumption))))⟩
        · have He := Lib.hid (onO_yes hcv hm)
          have hix := ix_mem_no hm
          generalize fstIx (fun i => strAt (onO l n j) i = (nspAt l j).nm) (onO l n j).length = z at *
          have T1 : decide (z < 0) = true := decide_eq_true (by omega)
          clear hcv hm
          go_wp2_with fail
          (refine wp_region_onto prog_mixed (by kernel_rfl) ?_; (repeat (go_big_quiet_step ((first | (go_at_call 51; exact onto_callS (spec_l01In_k Hw.out _)) | (go_at_call 56; exact onto_callX (Htx.out _ (onto_ext _ _))))))); refine onto_end ?_; intro w3 hx3)
          have Hsrc : Hid (∀ W, Row (World.alloc W (.cells #[.string (nspAt l j).nm] 9)) 0 (World.alloc W (.cells #[.string (nspAt l j).nm] 9)).heap.size 1 (.slice (some ⟨W.heap.size, 0, none⟩) 1 1) 1 (strCell [(nspAt l j).nm])) := Lib.hid (fun W => (Boxed.new W [.string (nspAt l j).nm] 9).row rfl (fun i hi => by
            obtain rfl : i = 0 := by omega
            rfl))
          have d1 := (hx3.cell (p := ⟨b, off + j * 3, none⟩) hbr).trans h1
          have hz3 := hx3.size
          have hb3 : b < w3.heap.size := Nat.lt_of_lt_of_le hbr hx3.size
          clear h1
          go_wp2_with (at_builtin; refine wpList_append_row _ rfl _ _ 35 rfl w1.heap.size 9 1 16 Tryz.underlying35 (by kernel_rfl) (by omega) _ (onO l n j).length 1 _ rfl (.inl (row_ext Hr.out (by repeat (first | exact Ext.refl _ | assumption | refine Ext.alloc ?_ _ | refine Ext.drew ?_ | refine Ext.drewN ?_ _ | refine Ext.setCell ?_ (by first | (simp; done) | (simp; omega) | omega) _ | refine Ext.trans ?_ (by assumption))))) (.inr (by omega)) 0 _ _ (strCell [(nspAt l j).nm]) rfl (Hsrc.out _) (fun i _ => strCell_one _ i) (by unfold maxLen; omega) (by omega) (by simp; omega) ?_; intro v7 w7 hown7 hput7; have Hrow7 := Lib.hid (RowStr.push hown7); have Hx7 := Lib.hid (hput7.ext (show Ext w1 _ from (by repeat (first | exact Ext.refl _ | assumption | refine Ext.alloc ?_ _ | refine Ext.drew ?_ | refine Ext.drewN ?_ _ | refine Ext.setCell ?_ (by first | (simp; done) | (simp; omega) | omega) _ | refine Ext.trans ?_ (by assumption)))) (Nat.le_refl _)); clear hown7 hput7)
          go_roundg (l.length - (j + 1))
          case measure => omega
          case rel => exact ⟨j + 1, by omega, by go_num, Hx7.out, Lib.hid (by rw [He.out]; exact Hrow7.out)⟩
      · have Hw := Lib.hid (B_false hcv)
        have He := Lib.hid (onO_no hcv)
        clear hcv
        go_wp2_with fail
        (refine wp_region_onto prog_mixed (by kernel_rfl) ?_; (repeat (go_big_quiet_step ((first | (go_at_call 51; exact onto_callS (spec_l01In_k Hw.out _)) | (go_at_call 56; exact onto_callX (Htx.out _ (onto_ext _ _))))))); refine onto_end ?_; intro w3 hx3)
        go_wp2_with fail
        go_roundg (l.length - (j + 1))
        case measure => omega
        case rel => exact ⟨j + 1, by omega, by go_num, (by repeat (first | exact Ext.refl _ | assumption | refine Ext.alloc ?_ _ | refine Ext.drew ?_ | refine Ext.drewN ?_ _ | refine Ext.setCell ?_ (by first | (simp; done) | (simp; omega) | omega) _ | refine Ext.trans ?_ (by assumption))), Lib.hid (by rw [He.out]; exact Hr.out.ext (by repeat (first | exact Ext.refl _ | assumption | refine Ext.alloc ?_ _ | refine Ext.drew ?_ | refine Ext.drewN ?_ _ | refine Ext.setCell ?_ (by first | (simp; done) | (simp; omega) | omega) _ | refine Ext.trans ?_ (by assumption))))⟩
    · obtain rfl : j = l.length := by omega
      go_wp2_with fail
      go_ret2
      rw [Hm.out.1, Hm.out.2]
      exact NewStrD.of (by repeat (first | exact Ext.refl _ | assumption | refine Ext.alloc ?_ _ | refine Ext.drew ?_ | refine Ext.drewN ?_ _ | refine Ext.setCell ?_ (by first | (simp; done) | (simp; omega) | omega) _ | refine Ext.trans ?_ (by assumption))) (Hr.out.ext (by repeat (first | exact Ext.refl _ | assumption | refine Ext.alloc ?_ _ | refine Ext.drew ?_ | refine Ext.drewN ?_ _ | refine Ext.setCell ?_ (by first | (simp; done) | (simp; omega) | omega) _ | refine Ext.trans ?_ (by assumption))))
end Go.Proofs.YtbddkmlfjghllaaGreatDoor
