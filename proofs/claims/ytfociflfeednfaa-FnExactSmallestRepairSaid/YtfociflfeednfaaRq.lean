/- Contracts: whether statements repair or contradict: the reference's. -/
import Derived.Test.YtfociflfeednfaaRp
import Derived.Deep.RegionLaw
namespace Go.Proofs.Ytfociflfeednfaa
set_option linter.unusedVariables false
set_option linter.unusedSimpArgs false
open Go.RowKit
attribute [local go_sem] cell_onto

theorem gvS_congr {is js : Nat → Prop} (l : List (List Sp)) : ∀ k, (∀ i, i < k → (is i ↔ js i)) → gvS is l k = gvS js l k
  | 0, _ => rfl
  | k + 1, h => by
    have ih := gvS_congr l k (fun i hi => h i (by omega))
    show gvS is l k ++ [bif B (is k) then _ else _] = gvS js l k ++ [bif B (js k) then _ else _]
    rw [ih, B_congr (h k (by omega))]
theorem gvL_congr {is js : Nat → Prop} (N : Nat) (l : List Lk) : ∀ k, (∀ i, i < k → (is (N + i) ↔ js (N + i))) → gvL is N l k = gvL js N l k
  | 0, _ => rfl
  | k + 1, h => by
    have ih := gvL_congr N l k (fun i hi => h i (by omega))
    show (bif B (is (N + k)) then _ else _) = (bif B (js (N + k)) then _ else _)
    rw [ih, B_congr (h k (by omega))]
theorem giveN_congr {is js : Nat → Prop} {n : Net} (h : ∀ i, i < n.sets.length + n.links.length → (is i ↔ js i)) : giveN is n = giveN js n := by
  unfold giveN
  rw [gvS_congr n.sets n.sets.length (fun i hi => h i (by omega)), gvL_congr n.sets.length n.links n.links.length (fun i hi => h _ (by omega))]

/-- the statements below k that are not in l -/
noncomputable def othTo (l : List Int) : Nat → List Int
  | 0 => []
  | k + 1 => bif B (HasI l k) then othTo l k else othTo l k ++ [(k : Int)]
theorem othTo_yes {l : List Int} {k : Nat} (h : HasI l k) : othTo l (k + 1) = othTo l k := by show (bif B (HasI l k) then _ else _) = _; rw [B_true h]; rfl
theorem othTo_no {l : List Int} {k : Nat} (h : ¬ HasI l k) : othTo l (k + 1) = othTo l k ++ [(k : Int)] := by show (bif B (HasI l k) then _ else _) = _; rw [B_false h]; rfl
theorem othTo_len (l : List Int) : ∀ k, (othTo l k).length ≤ k
  | 0 => by simp [othTo]
  | k + 1 => by
    have ih := othTo_len l k
    by_cases h : HasI l k
    · rw [othTo_yes h]; omega
    · rw [othTo_no h]; simp; omega
theorem hasI_mem {l : List Int} {x : Int} : HasI l x ↔ x ∈ l := by
  constructor
  · rintro ⟨i, hi, e⟩
    unfold inAt at e
    rw [List.getD_eq_getElem?_getD, List.getElem?_eq_getElem hi] at e
    rw [← e]
    exact List.getElem_mem hi
  · intro h
    obtain ⟨i, hi, e⟩ := List.getElem_of_mem h
    refine ⟨i, hi, ?_⟩
    unfold inAt
    rw [List.getD_eq_getElem?_getD, List.getElem?_eq_getElem hi]
    exact e
theorem mem_oth {l : List Int} {x : Int} : ∀ k, x ∈ othTo l k ↔ (0 ≤ x ∧ x < k) ∧ ¬ HasI l x
  | 0 => by simp [othTo]; omega
  | k + 1 => by
    by_cases h : HasI l k
    · rw [othTo_yes h, mem_oth k]
      constructor
      · rintro ⟨⟨h1, h2⟩, h3⟩; exact ⟨⟨h1, by omega⟩, h3⟩
      · rintro ⟨⟨h1, h2⟩, h3⟩
        refine ⟨⟨h1, ?_⟩, h3⟩
        rcases Int.lt_or_eq_of_le (show x ≤ (k : Int) by omega) with e | e
        · exact e
        · rw [e] at h3; exact absurd h h3
    · rw [othTo_no h, List.mem_append, mem_oth k]
      constructor
      · rintro (⟨⟨h1, h2⟩, h3⟩ | h1)
        · exact ⟨⟨h1, by omega⟩, h3⟩
        · have e : x = (k : Int) := by simpa using h1
          subst e
          exact ⟨⟨by omega, by omega⟩, h⟩
      · rintro ⟨⟨h1, h2⟩, h3⟩
        rcases Int.lt_or_eq_of_le (show x ≤ (k : Int) by omega) with e | e
        · exact .inl ⟨⟨h1, e⟩, h3⟩
        · exact .inr (by simp [e])
noncomputable def othL (n : Net) (l : List Int) : List Int := othTo l (n.sets.length + n.links.length)
theorem oth_give (n : Net) (l : List Int) : giveN (fun i => HasI (othL n l) i) n = giveN (fun i => ¬ HasI l i) n :=
  giveN_congr (fun i hi => by
    show HasI (othTo l _) i ↔ _
    rw [hasI_mem, mem_oth]
    exact ⟨fun h => h.2, fun h => ⟨⟨by omega, by omega⟩, h⟩⟩)

theorem ints_of_owned {w : World} {b T : Nat} {v : Value} {l : List Int} (h : w.ownsRow b T 1 v l.length (cellsOf (l.length * 1) (intCell l))) : Ints w 0 w.heap.size v l := by
  obtain ⟨g, _, ho⟩ := Own.of_owned h
  have := ho.row (lo := 0) (hi := w.heap.size) (fun h0 => ⟨Nat.zero_le _, ho.lt h0⟩)
  exact this

set_option maxHeartbeats 1000000 in
theorem spec_l21Repairs (s k v : Value) (n : Net) (l : List Int) (w : World) (h : NetIn w s k n) (hl : Ints w 0 w.heap.size v l) (hok : NetOk n) (hb : blN n ≤ 256) :
    Calls Try.prog 36 #[.agg #[s, k], v] w (RetX (.bool (repB n l)) w) := by
  obtain ⟨A, c, rfl, hn, hc⟩ := hl.len
  have H := Lib.hid h
  have Hl := Lib.hid hl
  have Hok := Lib.hid hok
  have Hfew := Lib.hid (blame_few (is := fun i => HasI l i) hb)
  clear h hl hok
  go_enter Try.func36, Try.ntmps36
  go_wp2_with fail
  refine Calls.mono (spec_l21Without s k _ n l _ (H.out.up (by repeat (first | exact Ext.refl _ | assumption | refine Ext.alloc ?_ _ | refine Ext.drew ?_ | refine Ext.drewN ?_ _ | refine Ext.setCell ?_ (by first | (simp; done) | (simp; omega) | omega) _ | refine Ext.trans ?_ (by assumption)))) (Hl.out.up (by repeat (first | exact Ext.refl _ | assumption | refine Ext.alloc ?_ _ | refine Ext.drew ?_ | refine Ext.drewN ?_ _ | refine Ext.setCell ?_ (by first | (simp; done) | (simp; omega) | omega) _ | refine Ext.trans ?_ (by assumption)))) Hok.out) ?_
  rintro e w2 ⟨gs, gk, rfl, hx2, ho⟩
  have Ho := Lib.hid ho.net.netIn
  have Hf := Lib.hid (NetFit.of (giveN_ok (is := fun i => HasI l i) Hok.out))
  have hxw2 : Ext w w2 := (by repeat (first | exact Ext.refl _ | assumption | refine Ext.alloc ?_ _ | refine Ext.drew ?_ | refine Ext.drewN ?_ _ | refine Ext.setCell ?_ (by first | (simp; done) | (simp; omega) | omega) _ | refine Ext.trans ?_ (by assumption)))
  clear ho hx2
  go_wp2_with fail
  refine Calls.mono (spec_l20Has gs gk _ _ Ho.out Hf.out (by have := Hfew.out; omega)) ?_
  rintro e w3 ⟨rfl, hx3⟩
  go_wp2_with fail
  go_ret
  exact ⟨rfl, (by repeat (first | exact Ext.refl _ | assumption | refine Ext.alloc ?_ _ | refine Ext.drew ?_ | refine Ext.drewN ?_ _ | refine Ext.setCell ?_ (by first | (simp; done) | (simp; omega) | omega) _ | refine Ext.trans ?_ (by assumption)))⟩
set_option maxHeartbeats 2000000 in
theorem spec_l21Others (s k v : Value) (n : Net) (l : List Int) (w : World) (h : NetIn w s k n) (hl : Ints w 0 w.heap.size v l) (hok : NetOk n) :
    Calls Try.prog 43 #[.agg #[s, k], v] w (NewOwn 2 1 (othL n l).length (intCell (othL n l)) w) := by
  obtain ⟨A, c, rfl, hn, hc⟩ := hl.len
  have H := Lib.hid h
  have Hl := Lib.hid hl
  have h8 := hok.1
  have h20 := hok.2.1
  obtain ⟨N, hN⟩ : ∃ N, N = n.sets.length + n.links.length := ⟨_, rfl⟩
  have HN := Lib.hid hN
  have hN28 : N ≤ 28 := by omega
  clear h hl hok hN
  go_enter Try.func43, Try.ntmps43
  have nb := Boxed.new w [s, k] 33; have nb0 := nb.at0; have nb1 := nb.at1; have nbg := nb.1; have Hnb := Lib.hid nb; clear nb
  go_wp2_with fail
  go_loopg [5, 6] N (fun q u5 i wr => ∃ j : Nat, j + q = N ∧ i = .int .i64 j ∧ Ext w wr ∧ Boxed wr w.heap.size [s, k] ∧
    wr.ownsRow (w.heap.size + 1) 2 1 u5 (othTo l j).length (cellsOf ((othTo l j).length * 1) (intCell (othTo l j))))
  case atStart =>
    refine ⟨0, by omega, rfl, (by repeat (first | exact Ext.refl _ | assumption | refine Ext.alloc ?_ _ | refine Ext.drew ?_ | refine Ext.drewN ?_ _ | refine Ext.setCell ?_ (by first | (simp; done) | (simp; omega) | omega) _ | refine Ext.trans ?_ (by assumption))), Hnb.out.ext (by repeat (first | exact Ext.refl _ | assumption | refine Ext.alloc ?_ _ | refine Ext.drew ?_ | refine Ext.drewN ?_ _ | refine Ext.setCell ?_ (by first | (simp; done) | (simp; omega) | omega) _ | refine Ext.trans ?_ (by assumption))), ?_⟩
    have := World.ownsRow_made (base := w.heap.size + 1) (e := 2) (size := 1) (w.alloc (.cells #[s, k] 33)) #[] 0 (by simp) (Nat.zero_le _) rfl
    simpa [cellsOf, othTo] using this
  clear nb0 nb1 nbg Hnb
  case round =>
    obtain ⟨j, hj, rfl, hx, hnb, hown⟩ := hrel
    have nb := hnb; have nb0 := nb.at0; have nb1 := nb.at1; have nbg := nb.1; have Hnb := Lib.hid nb; clear nb
    have Hown := Lib.hid hown
    have hol := othTo_len l j
    clear hown hnb
    go_wp2_with fail
    refine Calls.mono (spec_l21Count s k n wr (H.out.up hx) ⟨by omega, by omega⟩) ?_
    rintro e w2 ⟨rfl, hx2⟩
    have e1 : (n.sets.length : Int) + n.links.length = (N : Int) := by rw [HN.out]; omega
    rw [e1]
    have hxw2 : Ext w w2 := hx.trans hx2
    have mb := Hnb.out.ext hx2; have mb0 := mb.at0; have mb1 := mb.at1; have mbg := mb.1; have Hmb := Lib.hid mb; clear mb
    have Hown2 := Lib.hid (row_ext Hown.out hx2)
    clear nb0 nb1 nbg Hnb hx2 Hown
    by_cases hlt : j < N
    · have T1 : decide ((j : Int) < (N : Int)) = true := decide_eq_true (by omega)
      have T2 : decide (j < N) = true := decide_eq_true hlt
      go_wp2_with fail
      refine Calls.mono (spec_l01Has _ l j w2 (Hl.out.up hxw2)) ?_
      rintro e w3 ⟨rfl, hx3⟩
      have hxw3 : Ext w w3 := hxw2.trans hx3
      have cb := Hmb.out.ext hx3; have cb0 := cb.at0; have cb1 := cb.at1; have cbg := cb.1; have Hcb := Lib.hid cb; clear cb
      have Hown3 := Lib.hid (row_ext Hown2.out hx3)
      clear mb0 mb1 mbg Hmb hx3 Hown2
      by_cases hh : HasI l j
      · have Hh := Lib.hid hh
        rw [B_true hh]
        clear hh
        go_wp2_with fail
        go_roundg (N - (j + 1))
        case measure => omega
        case rel => exact ⟨j + 1, by omega, by go_num, (by repeat (first | exact Ext.refl _ | assumption | refine Ext.alloc ?_ _ | refine Ext.drew ?_ | refine Ext.drewN ?_ _ | refine Ext.setCell ?_ (by first | (simp; done) | (simp; omega) | omega) _ | refine Ext.trans ?_ (by assumption))), Hcb.out, by rw [othTo_yes Hh.out]; exact Hown3.out⟩
      · have Hh := Lib.hid hh
        rw [B_false hh]
        clear hh
        go_wp2_with (at_builtin; refine wpList_append_row _ rfl _ _ 26 rfl (w.heap.size + 1) 2 1 8 Try.underlying26 (by kernel_rfl) (by omega) _ (othTo l j).length 1 _ rfl (.inl (row_ext Hown3.out (by repeat (first | exact Ext.refl _ | assumption | refine Ext.alloc ?_ _ | refine Ext.drew ?_ | refine Ext.drewN ?_ _ | refine Ext.setCell ?_ (by first | (simp; done) | (simp; omega) | omega) _ | refine Ext.trans ?_ (by assumption))))) (.inr (by omega)) 0 _ _ (intCell [(j : Int)]) rfl ((Boxed.new w3 [.int .i64 (j : Int)] 2).row rfl (int_cells _)) (fun _ _ => rfl) (by unfold maxLen; omega) (by omega) (by simp; omega) ?_; intro v4 w4 hown4 hput4)
        go_roundg (N - (j + 1))
        case measure => omega
        case rel =>
          have hxb : Ext w (w3.alloc (.cells #[.int .i64 (j : Int)] 2)) := (by repeat (first | exact Ext.refl _ | assumption | refine Ext.alloc ?_ _ | refine Ext.drew ?_ | refine Ext.drewN ?_ _ | refine Ext.setCell ?_ (by first | (simp; done) | (simp; omega) | omega) _ | refine Ext.trans ?_ (by assumption)))
          exact ⟨j + 1, by omega, by go_num, hput4.ext hxb (by omega), (Hcb.out.ext (show Ext w3 (w3.alloc (.cells #[.int .i64 (j : Int)] 2)) from (by repeat (first | exact Ext.refl _ | assumption | refine Ext.alloc ?_ _ | refine Ext.drew ?_ | refine Ext.drewN ?_ _ | refine Ext.setCell ?_ (by first | (simp; done) | (simp; omega) | omega) _ | refine Ext.trans ?_ (by assumption))))).off hput4.1 (fun hh => by have := hh.1; omega), by rw [othTo_no Hh.out, ← intCells_push, List.length_append]; exact hown4⟩
    · obtain rfl : j = N := by omega
      have T1 : decide ((j : Int) < (j : Int)) = false := decide_eq_false (by omega)
      go_wp2_with fail
      go_ret
      have h2 := Hown2.out
      rw [HN.out] at h2
      exact ⟨_, rfl, (by repeat (first | exact Ext.refl _ | assumption | refine Ext.alloc ?_ _ | refine Ext.drew ?_ | refine Ext.drewN ?_ _ | refine Ext.setCell ?_ (by first | (simp; done) | (simp; omega) | omega) _ | refine Ext.trans ?_ (by assumption))), ownsRow_mono h2 (by omega)⟩
set_option maxHeartbeats 2000000 in
theorem spec_l21Contradict (s k v : Value) (n : Net) (l : List Int) (w : World) (h : NetIn w s k n) (hl : Ints w 0 w.heap.size v l) (hok : NetOk n) (hb : blN n ≤ 256) :
    Calls Try.prog 26 #[.agg #[s, k], v] w (RetX (.bool (conB n l)) w) := by
  obtain ⟨A, c, rfl, hn, hc⟩ := hl.len
  have H := Lib.hid h
  have Hl := Lib.hid hl
  have Hok := Lib.hid hok
  have Hfew := Lib.hid (show prodN (giveN (fun i => HasI (othL n l) i) n).sets ≤ 4096 from by have := blame_few (is := fun i => HasI (othL n l) i) hb; omega)
  have Hf := Lib.hid (NetFit.of (giveN_ok (is := fun i => HasI (othL n l) i) hok))
  clear h hl hok
  go_enter Try.func26, Try.ntmps26
  go_wp2_with fail
  have nb := Boxed.new w [s, k] 33; have nb0 := nb.at0; have nb1 := nb.at1; have nbg := nb.1; have Hnb := Lib.hid nb; clear nb
  have Hn0 : Hid (Boxed (w.alloc (.cells #[s, k] 33)) w.heap.size [s, k]) := Lib.hid Hnb.out
  go_region_law (first
    | (go_simp; go_at_call 43; refine Calls.mono (spec_l21Others s k _ n l _ (H.out.up (by repeat (first | exact Ext.refl _ | assumption | refine Ext.alloc ?_ _ | refine Ext.drew ?_ | refine Ext.drewN ?_ _ | refine Ext.setCell ?_ (by first | (simp; done) | (simp; omega) | omega) _ | refine Ext.trans ?_ (by assumption)))) (Hl.out.up (by repeat (first | exact Ext.refl _ | assumption | refine Ext.alloc ?_ _ | refine Ext.drew ?_ | refine Ext.drewN ?_ _ | refine Ext.setCell ?_ (by first | (simp; done) | (simp; omega) | omega) _ | refine Ext.trans ?_ (by assumption)))) Hok.out) ?_; rintro e wc ⟨uv, rfl, hxc, huc⟩; have Huc := Lib.hid (ints_of_owned huc); have hxwc : Ext (w.alloc (.cells #[s, k] 33)) wc := (by repeat (first | exact Ext.refl _ | assumption | refine Ext.alloc ?_ _ | refine Ext.drew ?_ | refine Ext.drewN ?_ _ | refine Ext.setCell ?_ (by first | (simp; done) | (simp; omega) | omega) _ | refine Ext.trans ?_ (by assumption))); have cb := Hn0.out.ext hxwc; have cb0 := cb.at0; have cb1 := cb.at1; have cbg := cb.1; have Hcb := Lib.hid cb; clear cb; clear huc)
    | (go_simp; go_at_call 50; refine Calls.mono (spec_l21Without s k uv n (othL n l) _ (H.out.up (by repeat (first | exact Ext.refl _ | assumption | refine Ext.alloc ?_ _ | refine Ext.drew ?_ | refine Ext.drewN ?_ _ | refine Ext.setCell ?_ (by first | (simp; done) | (simp; omega) | omega) _ | refine Ext.trans ?_ (by assumption)))) (Huc.out.up (by repeat (first | exact Ext.refl _ | assumption | refine Ext.alloc ?_ _ | refine Ext.drew ?_ | refine Ext.drewN ?_ _ | refine Ext.setCell ?_ (by first | (simp; done) | (simp; omega) | omega) _ | refine Ext.trans ?_ (by assumption)))) Hok.out) ?_; rintro e wd ⟨gs, gk, rfl, hxd, ho⟩; have Ho := Lib.hid ho.net.netIn; clear ho)
    | (go_simp; go_at_call 49; refine Calls.mono (spec_l20Has gs gk _ _ (Ho.out.up (by repeat (first | exact Ext.refl _ | assumption | refine Ext.alloc ?_ _ | refine Ext.drew ?_ | refine Ext.drewN ?_ _ | refine Ext.setCell ?_ (by first | (simp; done) | (simp; omega) | omega) _ | refine Ext.trans ?_ (by assumption)))) Hf.out Hfew.out) ?_; rintro e we ⟨rfl, hxe⟩))
  all_goals
    go_wp2_with fail
    go_ret
    exact ⟨by unfold conB; rw [oth_give]; rfl, (by repeat (first | exact Ext.refl _ | assumption | refine Ext.alloc ?_ _ | refine Ext.drew ?_ | refine Ext.drewN ?_ _ | refine Ext.setCell ?_ (by first | (simp; done) | (simp; omega) | omega) _ | refine Ext.trans ?_ (by assumption)))⟩
end Go.Proofs.Ytfociflfeednfaa
