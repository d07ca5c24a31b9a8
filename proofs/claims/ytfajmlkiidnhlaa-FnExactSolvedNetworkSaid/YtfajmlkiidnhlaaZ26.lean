/- Texts merged: a claim holds at most sixty files. -/
import Derived.Test.YtfajmlkiidnhlaaZ18
import Derived.Test.YtfajmlkiidnhlaaZ02
import Derived.Test.YtfajmlkiidnhlaaSf
import Derived.Test.YtfajmlkiidnhlaaZ08
import Derived.Lib.RowBridge
/- Contracts: lists compared: slices.Compare, l20Less. -/
namespace Go.Proofs.Ytfajmlkiidnhlaa
set_option linter.unusedVariables false
set_option linter.unusedSimpArgs false
open Go.RowKit
attribute [local go_sem] cell_onto

noncomputable def cmpL (a b : List Int) : Int := bif B (Lex a b) then -1 else bif B (Lex b a) then 1 else 0
theorem cmpL_lt {a b : List Int} (h : Lex a b) : cmpL a b = -1 := by unfold cmpL; rw [B_true h]; rfl
theorem cmpL_ge {a b : List Int} (h : ¬ Lex a b) : 0 ≤ cmpL a b ∧ cmpL a b ≤ 1 := by
  unfold cmpL
  rw [B_false h]
  cases B (Lex b a)
  · exact ⟨Int.le_refl _, by decide⟩
  · exact ⟨by decide, Int.le_refl _⟩
theorem cmpL_gt {a b : List Int} (h : ¬ Lex a b) (h2 : Lex b a) : cmpL a b = 1 := by unfold cmpL; rw [B_false h, B_true h2]; rfl
theorem cmpL_eq {a b : List Int} (h : ¬ Lex a b) (h2 : ¬ Lex b a) : cmpL a b = 0 := by unfold cmpL; rw [B_false h, B_false h2]; rfl
theorem eqTo_step {a b : List Int} {j : Nat} (h : ∀ i, i < j → inAt a i = inAt b i) (h2 : inAt a j = inAt b j) : ∀ i, i < j + 1 → inAt a i = inAt b i := by
  intro i hi
  by_cases e : i = j
  · subst e; exact h2
  · exact h i (by omega)

set_option maxHeartbeats 400000 in
theorem isNaN_int64 (x : Int) (w : World) : Calls Try.prog 217 #[.int .i64 x] w (RetS (.bool false) w) := by
  have T : (x != x) = false := by simp
  go_enter Try.func217, Try.ntmps217
  go_wp2_with fail
  go_ret
  exact ⟨rfl, rfl⟩
set_option maxHeartbeats 1000000 in
theorem cmp_Compare (x y : Int) (w : World) : Calls Try.prog 189 #[.int .i64 x, .int .i64 y] w (RetS (.int .i64 (if x < y then -1 else if y < x then 1 else 0)) w) := by
  go_enter Try.func189, Try.ntmps189
  by_cases h1 : x < y
  · have T1 : decide (x < y) = true := decide_eq_true h1
    have Hv : Hid ((if x < y then (-1 : Int) else if y < x then 1 else 0) = -1) := Lib.hid (by rw [if_pos h1])
    rw [Hv.out]
    go_wp2_with (go_at_call 217; refine Calls.mono (isNaN_int64 _ _) ?_; rintro e w1 ⟨rfl, rfl⟩)
    go_ret
    exact ⟨rfl, rfl⟩
  · have T1 : decide (x < y) = false := decide_eq_false h1
    by_cases h2 : y < x
    · have T2 : decide (y < x) = true := decide_eq_true h2
      have Hv : Hid ((if x < y then (-1 : Int) else if y < x then 1 else 0) = 1) := Lib.hid (by rw [if_neg h1, if_pos h2])
      rw [Hv.out]
      go_wp2_with (go_at_call 217; refine Calls.mono (isNaN_int64 _ _) ?_; rintro e w1 ⟨rfl, rfl⟩)
      go_ret
      exact ⟨rfl, rfl⟩
    · have T2 : decide (y < x) = false := decide_eq_false h2
      have Hv : Hid ((if x < y then (-1 : Int) else if y < x then 1 else 0) = 0) := Lib.hid (by rw [if_neg h1, if_neg h2])
      rw [Hv.out]
      go_wp2_with (go_at_call 217; refine Calls.mono (isNaN_int64 _ _) ?_; rintro e w1 ⟨rfl, rfl⟩)
      go_ret
      exact ⟨rfl, rfl⟩
set_option maxHeartbeats 2000000 in
theorem slices_Compare_ints (v v' : Value) (a b : List Int) (w : World) (h : Ints w 0 w.heap.size v a) (h' : Ints w 0 w.heap.size v' b) (hl : a.length = b.length) :
    Calls Try.prog 110 #[v, v'] w (RetS (.int .i64 (cmpL a b)) w) := by
  obtain ⟨A, c, rfl, hn, hc⟩ := h.len
  obtain ⟨A', c', rfl, hn', hc'⟩ := h'.len
  have H := Lib.hid h
  have H' := Lib.hid h'
  rw [hl] at hn hc
  have Hl := Lib.hid hl
  rw [hl] at H ⊢
  clear h h' hl
  go_enter Try.func110, Try.ntmps110
  go_wp2_with fail
  go_loopg [5, 6, 7, 8, 11] b.length (fun q u5 u6 u7 u8 i wr => ∃ j : Nat, j + q = b.length ∧ i = .int .i64 j ∧ wr = w ∧ Hid (∀ i, i < j → inAt a i = inAt b i))
  case atStart => exact ⟨0, by omega, rfl, rfl, Lib.hid (fun i hi => absurd hi (by omega))⟩
  case round =>
    obtain ⟨j, hj, rfl, rfl, Heq⟩ := hrel
    by_cases hlt : j < b.length
    · obtain ⟨b1, o1, rfl, _, hb1, h1⟩ := H.out.at_ (i := j) (by have := Hl.out; omega)
      obtain ⟨b2, o2, rfl, _, hb2, h2⟩ := H'.out.at_ hlt
      have T1 : decide ((b.length : Int) ≤ (j : Int)) = false := decide_eq_false (by omega)
      have T1' : decide (b.length ≤ j) = false := decide_eq_false (by omega)
      go_wp2_with fail
      refine Calls.mono (cmp_Compare (inAt a j) (inAt b j) _) ?_
      rintro e w1 ⟨rfl, rfl⟩
      rcases Int.lt_trichotomy (inAt a j) (inAt b j) with hh | hh | hh
      · have Hr := Lib.hid (cmpL_lt ((lex_step (by have := Hl.out; omega) Heq.out (by omega)).2 hh))
        rw [if_pos hh, Hr.out]
        clear hh
        go_wp2_with fail
        go_ret
        exact ⟨by rw [Hr.out]; rfl, rfl⟩
      · have Hh := Lib.hid hh
        rw [if_neg (by omega), if_neg (by omega)]
        clear hh
        go_wp2_with fail
        go_roundg (b.length - (j + 1))
        case measure => omega
        case rel => exact ⟨j + 1, by omega, by go_num, rfl, Lib.hid (eqTo_step Heq.out Hh.out)⟩
      · have Hr := Lib.hid (cmpL_gt (a := a) (b := b) (fun hx => by have := (lex_step (by have := Hl.out; omega) Heq.out (by omega)).1 hx; omega) ((lex_step hlt (fun i hi => (Heq.out i hi).symm) (by omega)).2 hh))
        rw [if_neg (by omega), if_pos hh, Hr.out]
        clear hh
        go_wp2_with fail
        go_ret
        exact ⟨by rw [Hr.out]; rfl, rfl⟩
    · obtain rfl : j = b.length := by omega
      have Hr := Lib.hid (cmpL_eq (a := a) (b := b) (lex_end (fun i hi => Heq.out i (by have := Hl.out; omega))) (lex_end (fun i hi => (Heq.out i hi).symm)))
      rw [Hr.out]
      go_wp2_with fail
      go_ret
      exact ⟨by rw [Hr.out]; rfl, rfl⟩
set_option maxHeartbeats 2000000 in
theorem spec_l20Less (v v' : Value) (a b : List Int) (w : World) (h : Ints w 0 w.heap.size v a) (h' : Ints w 0 w.heap.size v' b) (hl : a.length = b.length) :
    Calls Try.prog 115 #[v, v'] w (RetX (.bool (B (Lex a b))) w) := by
  obtain ⟨A, c, rfl, hn, hc⟩ := h.len
  obtain ⟨A', c', rfl, hn', hc'⟩ := h'.len
  have H := Lib.hid h
  have H' := Lib.hid h'
  rw [hl] at hn hc
  have Hl := Lib.hid hl
  rw [hl] at H ⊢
  clear h h' hl
  go_enter Try.func115, Try.ntmps115
  go_wp2_with fail
  go_loopg [5] b.length (fun q i wr => ∃ j : Nat, j + q = b.length ∧ i = .int .i64 j ∧ Ext w wr ∧ Hid (∀ i, i < j → inAt a i = inAt b i))
  case atStart => exact ⟨0, by omega, rfl, Ext.refl _, Lib.hid (fun i hi => absurd hi (by omega))⟩
  case round =>
    obtain ⟨j, hj, rfl, hx, Heq⟩ := hrel
    have hxs := hx.size
    by_cases hlt : j < b.length
    · obtain ⟨b1, o1, rfl, _, hb1, h1⟩ := (H.out.ext hx (Nat.le_refl _)).at_ (i := j) (by have := Hl.out; omega)
      obtain ⟨b2, o2, rfl, _, hb2, h2⟩ := (H'.out.ext hx (Nat.le_refl _)).at_ hlt
      have hb1r : b1 < wr.heap.size := by omega
      have hb2r : b2 < wr.heap.size := by omega
      by_cases hh : inAt a j = inAt b j
      · have T : (inAt a j != inAt b j) = false := by simp [hh]
        have Hh := Lib.hid hh
        clear hh
        go_wp2_with fail
        (refine wp_region_onto prog_mixed (by kernel_rfl) ?_; (repeat (go_big_quiet_step ((fail)))); refine onto_end ?_; intro w1 hx1)
        go_wp2_with fail
        go_roundg (b.length - (j + 1))
        case measure => omega
        case rel => exact ⟨j + 1, by omega, by go_num, (by repeat (first | exact Ext.refl _ | assumption | refine Ext.alloc ?_ _ | refine Ext.drew ?_ | refine Ext.drewN ?_ _ | refine Ext.setCell ?_ (by first | (simp; done) | (simp; omega) | omega) _ | refine Ext.trans ?_ (by assumption))), Lib.hid (eqTo_step Heq.out Hh.out)⟩
      · have T : (inAt a j != inAt b j) = true := by simp [hh]
        have Hh := Lib.hid (lex_step (a := a) (b := b) (by have := Hl.out; omega) Heq.out hh)
        clear hh
        go_wp2_with fail
        (refine wp_region_onto prog_mixed (by kernel_rfl) ?_; (repeat (go_big_quiet_step ((fail)))); refine onto_end ?_; intro w1 hx1)
        have k1 : w1.cell? ⟨b1, o1 + j, none⟩ = some (.int .i64 (inAt a j)) := (hx1.cell (p := ⟨b1, o1 + j, none⟩) hb1r).trans h1
        have k2 : w1.cell? ⟨b2, o2 + j, none⟩ = some (.int .i64 (inAt b j)) := (hx1.cell (p := ⟨b2, o2 + j, none⟩) hb2r).trans h2
        have kz := hx1.size
        have hb1s : b1 < w1.heap.size := by omega
        have hb2s : b2 < w1.heap.size := by omega
        go_wp2_with fail
        (refine wp_region_onto prog_mixed (by kernel_rfl) ?_; (repeat (go_big_quiet_step ((fail)))); refine onto_end ?_; intro w2 hx2)
        go_wp2_with fail
        go_ret
        exact ⟨ret_bool (B_eq (by rw [Hh.out]; simp)), (by repeat (first | exact Ext.refl _ | assumption | refine Ext.alloc ?_ _ | refine Ext.drew ?_ | refine Ext.drewN ?_ _ | refine Ext.setCell ?_ (by first | (simp; done) | (simp; omega) | omega) _ | refine Ext.trans ?_ (by assumption)))⟩
    · obtain rfl : j = b.length := by omega
      have Hr := Lib.hid (B_false (lex_end (a := a) (b := b) (fun i hi => Heq.out i (by have := Hl.out; omega))))
      rw [Hr.out]
      go_wp2_with fail
      go_ret
      exact ⟨by rw [Hr.out]; rfl, (by repeat (first | exact Ext.refl _ | assumption | refine Ext.alloc ?_ _ | refine Ext.drew ?_ | refine Ext.drewN ?_ _ | refine Ext.setCell ?_ (by first | (simp; done) | (simp; omega) | omega) _ | refine Ext.trans ?_ (by assumption)))⟩
end Go.Proofs.Ytfajmlkiidnhlaa

/- The library's sort at a row of spans: what it leaves, in words of rows. -/
namespace Go.Proofs.Ytfajmlkiidnhlaa
set_option linter.unusedVariables false
set_option linter.unusedSimpArgs false
open Go.RowKit Go.Sort
attribute [local go_sem] cell_onto

instance spInh : Inhabited Sp := ⟨⟨0, 0⟩⟩
def encSp (s : Sp) : List Value := [.int .i64 s.fr, .int .i64 s.to]
def cfSp (x y : Sp) : Int := if x.fr < y.fr then -1 else if y.fr < x.fr then 1 else 0
theorem ltSp (x y : Sp) : ltOf cfSp x y = decide (x.fr < y.fr) := by
  unfold ltOf cfSp
  by_cases h1 : x.fr < y.fr
  · simp [h1]
  · by_cases h2 : y.fr < x.fr <;> simp [h1, h2]
theorem swoSp : SWO (ltOf cfSp) where
  irrefl x := by rw [ltSp]; simp
  trans x y z h1 h2 := by rw [ltSp] at *; simp at *; omega
  ntrans x y z h1 h2 := by rw [ltSp] at *; simp at *; omega
theorem encSp_one (x : Sp) (v : Value) (hv : v ∈ encSp x) : v.oneCell' = true := by
  simp [encSp] at hv
  rcases hv with rfl | rfl <;> rfl
theorem encSp_at (s : Sp) (t : Nat) : (encSp s)[t % 2]! = if t % 2 = 0 then .int .i64 s.fr else .int .i64 s.to := by
  rcases Nat.mod_two_eq_zero_or_one t with h | h
  · rw [h]; rfl
  · rw [h]; rfl
theorem spAt_arr (d : Array Sp) (i : Nat) : d[i]! = spAt d.toList i := by
  unfold spAt
  rw [List.getD_eq_getElem?_getD, Array.getElem?_toList]
  by_cases h : i < d.size
  · rw [getElem!_pos d i h, Array.getElem?_eq_getElem h]; rfl
  · rw [getElem!_neg d i h, Array.getElem?_eq_none (by omega)]; rfl
theorem flatSp (d : Array Sp) (t : Nat) (h : t < d.size * 2) : (flatK encSp 2 d)[t]! = spanCell d.toList t := by
  rw [get_flatK _ _ _ _ h, encSp_at, spAt_arr]
  rfl
theorem flatSp_list (d : Array Sp) : (flatK encSp 2 d).toList = cellsOf (d.size * 2) (spanCell d.toList) := by
  refine List.ext_getElem? (fun i => ?_)
  by_cases h : i < d.size * 2
  · rw [cellsOf_at h, ← flatSp d i h, Array.getElem?_toList, Array.getElem?_eq_getElem (by rw [size_flatK]; exact h), getElem!_pos _ i (by rw [size_flatK]; exact h)]
  · rw [List.getElem?_eq_none (by rw [Array.length_toList, size_flatK]; omega), List.getElem?_eq_none (by rw [cellsOf_len]; omega)]
def setL : List Value → Nat → List Value → List Value
  | xs, _, [] => xs
  | xs, s, v :: r => setL (xs.set s v) (s + 1) r
theorem setL_len : ∀ (ys xs : List Value) (s : Nat), (setL xs s ys).length = xs.length
  | [], _, _ => rfl
  | v :: r, xs, s => by rw [setL, setL_len r, List.length_set]
theorem setL_get : ∀ (ys xs : List Value) (s i : Nat), s + ys.length ≤ xs.length → (setL xs s ys)[i]? = if s ≤ i ∧ i < s + ys.length then ys[i - s]? else xs[i]?
  | [], xs, s, i, _ => by rw [setL, if_neg (by show ¬ (s ≤ i ∧ i < s + 0); omega)]
  | v :: r, xs, s, i, h => by
    have hl : (v :: r).length = r.length + 1 := rfl
    rw [hl] at h
    rw [setL, setL_get r (xs.set s v) (s + 1) i (by rw [List.length_set]; omega), hl]
    by_cases h1 : s + 1 ≤ i ∧ i < s + 1 + r.length
    · rw [if_pos h1, if_pos (by omega)]
      obtain ⟨k, rfl⟩ : ∃ k, i = s + 1 + k := ⟨i - (s + 1), by omega⟩
      rw [show s + 1 + k - (s + 1) = k by omega, show s + 1 + k - s = k + 1 by omega]
      rfl
    · rw [if_neg h1, List.getElem?_set]
      by_cases e : s = i
      · subst e
        rw [if_pos rfl, if_pos (by omega), if_pos (by omega), Nat.sub_self]
        rfl
      · rw [if_neg e, if_neg (by omega)]
theorem setL_all (xs ys : List Value) (h : ys.length = xs.length) : setL xs 0 ys = ys := by
  refine List.ext_getElem? (fun i => ?_)
  rw [setL_get ys xs 0 i (by omega)]
  by_cases hi : i < ys.length
  · rw [if_pos (by omega), Nat.sub_zero]
  · rw [if_neg (by omega), List.getElem?_eq_none (by omega), List.getElem?_eq_none (by omega)]
theorem ownsRow_storedL {base g n cap size : Nat} {e : TypeId} : ∀ (vs : List Value) (s : Nat) (w : World) (xs : List Value), w.ownsRow base e size (.slice (some ⟨g, 0, none⟩) n cap) n xs → (w.setCells g s vs).ownsRow base e size (.slice (some ⟨g, 0, none⟩) n cap) n (setL xs s vs)
  | [], _, _, _, h => h
  | v :: r, s, w, xs, h => by
    rw [World.setCells, setL]
    exact ownsRow_storedL r (s + 1) _ _ (World.ownsRow.stored h s v).1
theorem Ext.setCells {a : World} {g : Nat} (hg : a.heap.size ≤ g) : ∀ (vs : List Value) (s : Nat) {w : World}, Ext a w → Ext a (w.setCells g s vs)
  | [], _, _, h => h
  | v :: r, s, w, h => by
    rw [World.setCells]
    exact Ext.setCells hg r (s + 1) (h.setCell hg v)
theorem Ext.grow {a w : World} (h : Ext a w) (os : Array Obj) : Ext a (Go.Sort.grow w os) :=
  ⟨h.os, h.tape, h.output, by rw [size_grow]; have := h.size; omega, fun k hk => by rw [heap_grow_old w os (Nat.lt_of_lt_of_le hk h.size)]; exact h.block k hk⟩
theorem holdsSp {w : World} {base g cap : Nat} {T : TypeId} {l : List Sp} (h : RowSp w base T (.slice (some ⟨g, 0, none⟩) l.length cap) l) : HoldsK encSp 2 w g 0 l.toArray := by
  intro j hj
  rw [size_flatK] at hj
  have hj' : j < l.length * 2 := by simpa using hj
  rw [Nat.zero_add, flatSp l.toArray j hj]
  have h1 := World.ownsRow.cellAt h j (by omega)
  rw [cellsOf_at hj'] at h1
  exact ⟨h1, World.ownsRow.frozenAt h j⟩
/-- what the sort leaves -/
theorem sortRow {w : World} {base g cap n : Nat} {T : TypeId} {l : List Sp} {d : Array Sp} {os : Array Obj} (h : RowSp w base T (.slice (some ⟨g, 0, none⟩) l.length cap) l) (hs : d.size = l.length) :
    RowSp (sortWorldK encSp 2 w g 0 n d os) base T (.slice (some ⟨g, 0, none⟩) l.length cap) d.toList ∧ ∀ w0, Ext w0 w → w0.heap.size ≤ g → Ext w0 (sortWorldK encSp 2 w g 0 n d os) := by
  have e : sortWorldK encSp 2 w g 0 n d os = Go.Sort.grow ((w.drewN n).setCells g 0 (flatK encSp 2 d).toList) os := by
    have h1 := Lib.putRow_eq_setCells id w g 0 (flatK encSp 2 l.toArray) (flatK encSp 2 d).toList n (holdsSp h) (by simp [hs])
    rw [List.map_id] at h1
    unfold sortWorldK putRowK
    rw [← h1]
  rw [e]
  refine ⟨?_, fun w0 hx hg => ((hx.drewN n).setCells hg _ 0).grow os⟩
  have h2 : RowSp (w.drewN n) base T (.slice (some ⟨g, 0, none⟩) l.length cap) l := h.ext ((Ext.refl w).drewN n)
  have h3 := ownsRow_storedL (flatK encSp 2 d).toList 0 _ _ h2
  rw [setL_all _ _ (by rw [cellsOf_len, Array.length_toList, size_flatK, hs]), flatSp_list, hs] at h3
  have h4 := row_ext h3 ((Ext.refl _).grow os)
  have e4 : d.toList.length = l.length := by rw [Array.length_toList]; exact hs
  unfold RowSp
  rw [e4, flatSp_list, hs]
  exact h4
/-! ### what a sorted row of the same spans is joined to -/
theorem SortedIn.f {d : Array Sp} (h : SortedIn (ltOf cfSp) 0 d.size d) : SortedF d.toList := fun i k hik hk => by
  have := h i k (Nat.zero_le _) hik (by simpa using hk)
  rw [ltSp, spAt_arr, spAt_arr] at this
  have := of_decide_eq_false this
  omega
theorem PermIn.list {d : Array Sp} {l : List Sp} (h : PermIn 0 l.toArray.size l.toArray d) : d.toList.Perm l := by
  obtain ⟨h1, _, h3⟩ := h
  have e1 : d.extract 0 l.toArray.size = d := by rw [← h1]; exact Array.extract_size
  have e2 : l.toArray.extract 0 l.toArray.size = l.toArray := Array.extract_size
  rw [e1, e2] at h3
  exact h3
theorem perm_all {a b : List Sp} (h : a.Perm b) {P : Sp → Prop} (hb : ∀ i, i < b.length → P (spAt b i)) : ∀ i, i < a.length → P (spAt a i) := fun i hi => by
  obtain ⟨k, hk, e⟩ := mem_spAt (h.mem_iff.1 (spAt_mem hi))
  rw [← e]
  exact hb k hk
theorem perm_days {a b : List Sp} (h : a.Perm b) (d : Int) : HasDay a d ↔ HasDay b d := by
  rw [← hasL_iff, ← hasL_iff]
  unfold HasL
  constructor
  · rintro ⟨s, hs, h2⟩; exact ⟨s, h.mem_iff.1 hs, h2⟩
  · rintro ⟨s, hs, h2⟩; exact ⟨s, h.mem_iff.2 hs, h2⟩
theorem joinL_perm {a b : List Sp} (h : a.Perm b) (hs : SortedF a) (hf : FromTo b) : joinL a = mkL b := by
  have hf' : FromTo a := perm_all (P := fun s => s.fr ≤ s.to) h hf
  obtain ⟨n1, d1⟩ := joinL_ok hs hf'
  obtain ⟨n2, d2⟩ := mkL_ok hf
  exact n1.eq n2 (fun d => (d1 d).trans ((perm_days h d).trans (d2 d).symm))
end Go.Proofs.Ytfajmlkiidnhlaa
