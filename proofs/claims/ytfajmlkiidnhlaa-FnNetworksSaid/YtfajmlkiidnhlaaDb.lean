/- Contracts: draws of spans and sets. -/
import Derived.Test.YtfajmlkiidnhlaaDa
import Derived.Test.YtfajmlkiidnhlaaMk
namespace Go.Proofs.Ytfajmlkiidnhlaa
set_option linter.unusedVariables false
set_option linter.unusedSimpArgs false
open Go.RowKit
attribute [local go_sem] cell_onto

theorem rowSpans {w : World} {base T : Nat} {v : Value} {l : List Sp} (h : w.ownsRow base T 2 v l.length (cellsOf (l.length * 2) (spanCell l))) : Spans w 0 w.heap.size v l := by
  obtain ⟨g, _, ho⟩ := Own.of_owned h
  exact ho.row (fun h0 => ⟨Nat.zero_le _, ho.lt h0⟩)
theorem push_all {l : List Sp} {s : Sp} {P : Sp → Prop} (h : ∀ i, i < l.length → P (spAt l i)) (hs : P s) : ∀ i, i < (l ++ [s]).length → P (spAt (l ++ [s]) i) := fun i hi => by
  have hi' : i < l.length + 1 := by simpa using hi
  rw [spAt_push' l s hi']
  by_cases e : i = l.length
  · rw [if_pos e]; exact hs
  · rw [if_neg e]; exact h i (by omega)
set_option maxHeartbeats 4000000 in
theorem spec_l02DrawSpans (b0 g cn : Nat) (cv : Value) (base : Int) (w : World) (h : Src b0 g cv cn w) (hb0 : 0 ≤ base) (hb1 : base ≤ 1000000) :
    Calls Try.prog 170 #[.pointer (some ⟨g, 0, none⟩), .int .i64 base] w (DrSpans b0 g cv cn 129 5 SpBd w) := by
  have Hs := Lib.hid h
  have hg := h.lt
  clear h
  go_enter Try.func170, Try.ntmps170
  go_wp2_with fail
  refine Calls.mono (spec_l01Next b0 g cn cv 6 _ (Hs.out.ext ((Ext.refl w).alloc (.cells #[] 129)))) ?_
  rintro e w1 ⟨r, rfl, ⟨r0, r1, _⟩, hd⟩
  have hr := r1 (by omega)
  have Hd1 : Hid (Drw b0 g cv cn w w1) := Lib.hid (((Drw.refl Hs.out).alloc _).trans hd)
  have Ho1 : Hid (w1.ownsRow w.heap.size 129 2 (.slice (some ⟨w.heap.size, 0, none⟩) 0 0) 0 []) := Lib.hid (ownsRow_drw (World.ownsRow_made w #[] 0 (Nat.le_refl _) (Nat.zero_le _) rfl) hd hg)
  obtain ⟨k, rfl⟩ := Int.eq_ofNat_of_zero_le r0
  clear hd r1
  go_wp2_with fail
  go_loopg [5, 6] k (fun q u5 u6 wr => ∃ l : List Sp, u6 = .int .i64 q ∧ q + l.length ≤ 5 ∧ Hid (Drw b0 g cv cn w wr) ∧ Hid (∀ i, i < l.length → SpBd (spAt l i)) ∧ Hid (wr.ownsRow w.heap.size 129 2 u5 l.length (cellsOf (l.length * 2) (spanCell l))))
  case atStart => exact ⟨[], rfl, by simp; omega, Hd1, Lib.hid (fun i hi => absurd hi (by simp)), Lib.hid (by simpa [cellsOf] using Ho1.out)⟩
  case round =>
    obtain ⟨l, rfl, hq, Hd, Hp, Ho⟩ := hrel
    by_cases hk0 : 0 < gk
    · have hki : (0 : Int) < (gk : Int) := by omega
      go_wp2_with fail
      refine Calls.mono (spec_l01Next b0 g cn cv 120 _ Hd.out.src) ?_
      rintro e w2 ⟨r, rfl, ⟨r0, r1, _⟩, hd2⟩
      have hr1 := r1 (by omega)
      have Hd2 := Lib.hid (Hd.out.trans hd2)
      have Ho2 := Lib.hid (ownsRow_drw Ho.out hd2 hg)
      have hz2 := Hd2.out.size
      have hpk := box_pick (b0 := b0) (g := g) (cn := cn) (cv := cv) [1, 5, 40] (Boxed.new w2 [.int .i64 1, .int .i64 5, .int .i64 40] 2) (by simp) (by omega)
      have Hpk := Lib.hid hpk
      clear hd2 r1 hpk Ho Hd
      go_wp2_with fail
      refine Calls.mono (spec_l01Pick b0 g cn cv _ [1, 5, 40] _ (Hd2.out.alloc _).src Hpk.out.1 (by simp) Hpk.out.2) ?_
      rintro e w3 ⟨m, rfl, hm, hd3⟩
      have hm1 : 1 ≤ m ∧ m ≤ 40 := by
        simp only [List.mem_cons, List.not_mem_nil, or_false] at hm
        rcases hm with rfl | rfl | rfl <;> omega
      have Hd3 := Lib.hid ((Hd2.out.alloc _).trans hd3)
      have Ho3 := Lib.hid (ownsRow_drw (row_ext Ho2.out (by repeat (first | exact Ext.refl _ | assumption | refine Ext.alloc ?_ _ | refine Ext.drew ?_ | refine Ext.drewN ?_ _ | refine Ext.setCell ?_ (by first | (simp; done) | (simp; omega) | omega) _ | refine Ext.trans ?_ (by assumption)))) hd3 hg)
      clear hm hd3 Ho2 Hpk
      go_wp2_with fail
      refine Calls.mono (spec_l01Next b0 g cn cv m _ Hd3.out.src) ?_
      rintro e w4 ⟨r', rfl, ⟨t0, t1, t2⟩, hd4⟩
      have ht : r' ≤ 40 := by
        by_cases h1 : 1 < m
        · have := t1 h1; omega
        · have := t2 (by omega); omega
      have Hd4 := Lib.hid (Hd3.out.trans hd4)
      have Ho4 := Lib.hid (ownsRow_drw Ho3.out hd4 hg)
      have hz4 := Hd4.out.size
      have Hp4 := Lib.hid (push_all (s := ⟨base + r, base + r + r'⟩) Hp.out ⟨⟨by show _ ≤ base + r; omega, by show base + r ≤ _; omega⟩, by show _ ≤ base + r + r'; omega, by show base + r + r' ≤ _; omega⟩)
      clear hd4 Ho3 Hd3 Hd2 t1 t2
      have hle : gk + l.length ≤ 5 := hq
      go_wp2_with (at_builtin; refine wpList_append_row _ rfl _ _ 42 rfl w.heap.size 129 2 16 Try.underlying42 (by kernel_rfl) (by omega) _ l.length 1 _ rfl (.inl (row_ext Ho4.out (by repeat (first | exact Ext.refl _ | assumption | refine Ext.alloc ?_ _ | refine Ext.drew ?_ | refine Ext.drewN ?_ _ | refine Ext.setCell ?_ (by first | (simp; done) | (simp; omega) | omega) _ | refine Ext.trans ?_ (by assumption))))) (.inr (by omega)) 0 _ _ (spanCell [⟨base + r, base + r + r'⟩]) rfl ((Boxed.new w4 [.int .i64 (base + r), .int .i64 (base + r + r')] 129).row rfl (span_cells _ _)) (fun i _ => spanCell_one _ i) (by unfold maxLen; omega) (by omega) (by simp; omega) ?_; intro v5 w5 hown5 hput5; have Ho5 := Lib.hid (RowSp.push hown5); have Hd5 := Lib.hid ((Hd4.out.alloc _).put hg hput5 (Nat.le_refl _)); clear hown5 hput5)
      go_roundg (gk - 1)
      case measure => omega
      case rel => exact ⟨l ++ [(⟨base + r, base + r + r'⟩ : Sp)], by rw [Int.ofNat_sub (by omega)]; rfl, by simp; omega, Hd5, Hp4, Lib.hid Ho5.out⟩
    · obtain rfl : gk = 0 := by omega
      go_wp2_with fail
      go_ret
      exact ⟨_, l, rfl, Hd.out, by omega, Hp.out, Ho.out⟩
theorem ownsRow_full {base size : Nat} {e : TypeId} (w : World) (cur : Array Value) (n : Nat) (hb : base ≤ w.heap.size) (hm : n ≤ maxLen) (hs : cur.size = n * size) :
    (w.alloc (.cells cur e)).ownsRow base e size (.slice (some ⟨w.heap.size, 0, none⟩) n n) n cur.toList :=
  ⟨by simp [hs], .inr ⟨w.heap.size, n, cur, rfl, hb, heap_alloc_new w _, Nat.le_refl _, hm, hs, by rw [List.take_of_length_le (by simp [hs])]⟩⟩
theorem oneSpan_cells (a b : Int) : [Value.int .i64 a, .int .i64 b] = cellsOf (1 * 2) (spanCell [⟨a, b⟩]) := rfl
def AnySp (_ : Sp) : Prop := True
theorem anySp (l : List Sp) : ∀ i, i < l.length → AnySp (spAt l i) := fun _ _ => trivial
theorem RowSp.of {w : World} {base T n : Nat} {v : Value} {l : List Sp} {xs : List Value} (h : w.ownsRow base T 2 v n xs) (hn : n = l.length) (hx : xs = cellsOf (l.length * 2) (spanCell l)) : w.ownsRow base T 2 v l.length (cellsOf (l.length * 2) (spanCell l)) := by
  subst hn hx; exact h
theorem spanCells_app (l m : List Sp) : cellsOf (l.length * 2) (spanCell l) ++ cellsOf (m.length * 2) (spanCell m) = cellsOf ((l ++ m).length * 2) (spanCell (l ++ m)) := by
  rw [cellsOf_append, List.length_append, Nat.add_mul]
  refine cellsOf_congr (fun i hi => ?_)
  have e : ∀ j, spAt (l ++ m) j = if j < l.length then spAt l j else spAt m (j - l.length) := by
    intro j
    unfold spAt
    rw [List.getD_eq_getElem?_getD, List.getD_eq_getElem?_getD, List.getD_eq_getElem?_getD]
    by_cases h : j < l.length
    · rw [if_pos h, List.getElem?_append_left h]
    · rw [if_neg h, List.getElem?_append_right (by omega)]
  by_cases h : i < l.length * 2
  · rw [if_pos h]
    unfold spanCell
    rw [e, if_pos (show i / 2 < l.length by omega)]
  · rw [if_neg h]
    unfold spanCell
    rw [e, if_neg (show ¬ i / 2 < l.length by omega), show (i - l.length * 2) % 2 = i % 2 by omega, show (i - l.length * 2) / 2 = i / 2 - l.length by omega]
theorem headCells (a b : Int) (m : List Sp) : (#[Value.int .i64 a, .int .i64 b].toList ++ cellsOf (m.length * 2) (spanCell m)) = cellsOf (((⟨a, b⟩ : Sp) :: m).length * 2) (spanCell ((⟨a, b⟩ : Sp) :: m)) := by
  have h := spanCells_app [(⟨a, b⟩ : Sp)] m
  rw [show cellsOf (([(⟨a, b⟩ : Sp)]).length * 2) (spanCell [(⟨a, b⟩ : Sp)]) = [Value.int .i64 a, .int .i64 b] from (oneSpan_cells a b).symm] at h
  exact h
theorem headRow {w : World} {base T : Nat} {v : Value} {a b : Int} {m : List Sp} (h : w.ownsRow base T 2 v (1 + m.length) (#[Value.int .i64 a, .int .i64 b].toList ++ cellsOf (m.length * 2) (spanCell m))) :
    w.ownsRow base T 2 v ((⟨a, b⟩ : Sp) :: m).length (cellsOf (((⟨a, b⟩ : Sp) :: m).length * 2) (spanCell ((⟨a, b⟩ : Sp) :: m))) :=
  RowSp.of h (by show 1 + m.length = m.length + 1; omega) (headCells a b m)
set_option maxRecDepth 100000 in
set_option maxHeartbeats 8000000 in
theorem spec_l02Draw (b0 g cn : Nat) (cv : Value) (w : World) (h : Src b0 g cv cn w) :
    Calls Try.prog 171 #[.pointer (some ⟨g, 0, none⟩)] w (DrSpans b0 g cv cn 129 400 AnySp w) := by
  have Hs := Lib.hid h
  have hg := h.lt
  clear h
  go_enter Try.func171, Try.ntmps171
  go_wp2_with fail
  refine Calls.mono (spec_l01Next b0 g cn cv 60 _ Hs.out) ?_
  rintro e w1 ⟨r, rfl, ⟨r0, r1, _⟩, hd⟩
  have hr := r1 (by omega)
  have Hd1 := Lib.hid hd
  clear hd r1
  go_wp2_with fail
  refine Calls.mono (spec_l02DrawSpans b0 g cn cv (400000 + r) _ Hd1.out.src (by omega) (by omega)) ?_
  rintro e w2 ⟨v, l, rfl, hd, hl5, hbd, hrow⟩
  obtain ⟨A, c, rfl⟩ := ownsRow_len hrow
  have Hd2 := Lib.hid (Hd1.out.trans hd)
  have Hsp := Lib.hid (rowSpans hrow)
  have Hbd := Lib.hid hbd
  have hz1 := Hd1.out.size
  have hz2 := hd.size
  clear hd hbd hrow
  go_wp2_with fail
  refine Calls.mono (spec_l02Make _ l _ Hsp.out (by omega) Hbd.out) ?_
  rintro e w3 ⟨v3, rfl, hx3, hr3⟩
  have Hr3 := Lib.hid (show w3.ownsRow w.heap.size 129 2 v3 (mkL l).length (cellsOf ((mkL l).length * 2) (spanCell (mkL l))) from ownsRow_mono hr3 (by omega))
  have Hd3 := Lib.hid (Hd2.out.ext hx3)
  have hml : (mkL l).length ≤ 5 := Nat.le_trans (mkL_len l) hl5
  obtain ⟨A3, c3, rfl⟩ := ownsRow_len hr3
  clear hr3 hx3 Hsp Hbd
  go_wp2_with fail
  refine Calls.mono (spec_l01Next b0 g cn cv 60 _ Hd3.out.src) ?_
  rintro e w4 ⟨q, rfl, -, hd⟩
  have Hd4 := Lib.hid (Hd3.out.trans hd)
  have Hr4 := Lib.hid (ownsRow_drw Hr3.out hd hg)
  have hz4 := Hd4.out.size
  clear hd Hr3
  generalize mkL l = m at *
  by_cases q0 : q = 0
  · subst q0
    have hpk := box_pick (b0 := b0) (g := g) (cn := cn) (cv := cv) [-1, 400010, 730499, 730500] (Boxed.new w4 [.int .i64 (-1), .int .i64 400010, .int .i64 730499, .int .i64 730500] 2) (by simp) (by omega)
    have Hpk := Lib.hid hpk
    clear hpk
    go_wp2_with fail
    refine Calls.mono (spec_l01Pick b0 g cn cv _ [-1, 400010, 730499, 730500] _ (Hd4.out.alloc _).src Hpk.out.1 (by simp) Hpk.out.2) ?_
    rintro e w5 ⟨x, rfl, -, hd⟩
    have Hd5 := Lib.hid ((Hd4.out.alloc _).trans hd)
    have Hr5 := Lib.hid (ownsRow_drw (row_ext Hr4.out (by repeat (first | exact Ext.refl _ | assumption | refine Ext.alloc ?_ _ | refine Ext.drew ?_ | refine Ext.drewN ?_ _ | refine Ext.setCell ?_ (by first | (simp; done) | (simp; omega) | omega) _ | refine Ext.trans ?_ (by assumption)))) hd hg)
    have hz5 := Hd5.out.size
    clear hd Hpk Hr4
    go_wp2_with (at_builtin; refine wpList_append_row _ rfl _ _ 42 rfl w.heap.size 129 2 16 Try.underlying42 (by kernel_rfl) (by omega) _ m.length 1 _ rfl (.inl (row_ext Hr5.out (by repeat (first | exact Ext.refl _ | assumption | refine Ext.alloc ?_ _ | refine Ext.drew ?_ | refine Ext.drewN ?_ _ | refine Ext.setCell ?_ (by first | (simp; done) | (simp; omega) | omega) _ | refine Ext.trans ?_ (by assumption))))) (.inr (by omega)) 0 _ _ (spanCell [⟨x, 730499⟩]) rfl ((Boxed.new w5 [.int .i64 x, .int .i64 730499] 129).row rfl (span_cells _ _)) (fun i _ => spanCell_one _ i) (by unfold maxLen; omega) (by omega) (by simp; omega) ?_; intro v6 w6 hown6 hput6; have Ho6 := Lib.hid (RowSp.push hown6); have Hd6 := Lib.hid ((Hd5.out.alloc _).put hg hput6 (Nat.le_refl _)); clear hown6 hput6)
    go_ret
    exact ⟨_, m ++ [(⟨x, 730499⟩ : Sp)], rfl, Hd6.out, by simp; omega, anySp _, Ho6.out⟩
  by_cases q1 : q = 1
  · subst q1
    go_wp2_with fail
    refine Calls.mono (spec_l01Next b0 g cn cv 9 _ Hd4.out.src) ?_
    rintro e w5 ⟨x, rfl, -, hd⟩
    have Hd5 := Lib.hid (Hd4.out.trans hd)
    have Hr5 := Lib.hid (ownsRow_drw Hr4.out hd hg)
    have hz5 := Hd5.out.size
    have Hnew := Lib.hid (ownsRow_full (base := w.heap.size) (e := 129) (size := 2) w5 #[.int .i64 0, .int .i64 x] 1 (by omega) (by unfold maxLen; omega) rfl)
    clear hd Hr4
    go_wp2_with (at_builtin; refine wpList_append_row _ rfl _ _ 42 rfl w.heap.size 129 2 16 Try.underlying42 (by kernel_rfl) (by omega) _ 1 m.length _ rfl (.inl Hnew.out) (.inl Hnew.out) 0 (w5.alloc (.cells #[.int .i64 0, .int .i64 x] 129)).heap.size _ (spanCell m) rfl (rowSpans (row_ext Hr5.out (by repeat (first | exact Ext.refl _ | assumption | refine Ext.alloc ?_ _ | refine Ext.drew ?_ | refine Ext.drewN ?_ _ | refine Ext.setCell ?_ (by first | (simp; done) | (simp; omega) | omega) _ | refine Ext.trans ?_ (by assumption))))) (fun i _ => spanCell_one _ i) (by unfold maxLen; omega) (by omega) (by simp; omega) ?_; intro v6 w6 hown6 hput6; have Ho6 := Lib.hid (headRow hown6); have Hd6 := Lib.hid ((Hd5.out.alloc _).put hg hput6 (Nat.le_refl _)); clear hown6 hput6)
    go_ret
    exact ⟨_, (⟨0, x⟩ : Sp) :: m, rfl, Hd6.out, by simp; omega, anySp _, Ho6.out⟩
  by_cases q2 : q = 2
  · subst q2
    have Ho5 := Lib.hid (World.ownsRow_made (base := w.heap.size) (e := 129) (size := 2) w4 #[] 0 (by omega) (Nat.zero_le _) rfl)
    have Hd5 := Lib.hid (Hd4.out.alloc (.cells #[] 129))
    clear Hr4
    go_wp2_with fail
    go_loopg [3, 4] 400 (fun p u3 u4 wr => ∃ (j : Nat) (l : List Sp), j + p = 400 ∧ j ≤ 301 ∧ l.length = j ∧ u4 = .int .i64 j ∧ Hid (Drw b0 g cv cn w wr) ∧ Hid (wr.ownsRow w.heap.size 129 2 u3 l.length (cellsOf (l.length * 2) (spanCell l))))
    case atStart => exact ⟨0, [], by omega, by omega, rfl, rfl, Hd5, Lib.hid (by simpa [cellsOf] using Ho5.out)⟩
    case round =>
      obtain ⟨j, l2, hj, hj3, hl2, rfl, Hd, Ho⟩ := hrel
      go_wp2_with fail
      refine Calls.mono (spec_l01Next b0 g cn cv 2 _ Hd.out.src) ?_
      rintro e w6 ⟨x, rfl, ⟨x0, x1, _⟩, hd⟩
      have hx2 := x1 (by omega)
      have Hd6 := Lib.hid (Hd.out.trans hd)
      have Ho6 := Lib.hid (ownsRow_drw Ho.out hd hg)
      have hz6 := Hd6.out.size
      clear hd Ho Hd x1
      by_cases hlt : (j : Int) < 300 + x
      · have T1 : decide ((j : Int) < 300 + x) = true := decide_eq_true hlt
        go_wp2_with (at_builtin; refine wpList_append_row _ rfl _ _ 42 rfl w.heap.size 129 2 16 Try.underlying42 (by kernel_rfl) (by omega) _ l2.length 1 _ rfl (.inl (row_ext Ho6.out (by repeat (first | exact Ext.refl _ | assumption | refine Ext.alloc ?_ _ | refine Ext.drew ?_ | refine Ext.drewN ?_ _ | refine Ext.setCell ?_ (by first | (simp; done) | (simp; omega) | omega) _ | refine Ext.trans ?_ (by assumption))))) (.inr (by omega)) 0 _ _ (spanCell [⟨3 * j, 3 * j⟩]) rfl ((Boxed.new w6 [.int .i64 (3 * j), .int .i64 (3 * j)] 129).row rfl (span_cells _ _)) (fun i _ => spanCell_one _ i) (by unfold maxLen; omega) (by omega) (by simp; omega) ?_; intro v7 w7 hown7 hput7; have Ho7 := Lib.hid (RowSp.push hown7); have Hd7 := Lib.hid ((Hd6.out.alloc _).put hg hput7 (Nat.le_refl _)); clear hown7 hput7)
        go_roundg (400 - (j + 1))
        case measure => omega
        case rel => exact ⟨j + 1, l2 ++ [(⟨3 * j, 3 * j⟩ : Sp)], by omega, by omega, by simp; omega, by go_num, Hd7, Lib.hid Ho7.out⟩
      · have T1 : decide ((j : Int) < 300 + x) = false := decide_eq_false hlt
        go_wp2_with fail
        go_ret
        exact ⟨_, l2, rfl, Hd6.out, by omega, anySp _, Ho6.out⟩
  · have q0' : (q == 0) = false := by simpa using q0
    have q1' : (q == 1) = false := by simpa using q1
    have q2' : (q == 2) = false := by simpa using q2
    go_wp2_with fail
    go_ret
    exact ⟨_, m, rfl, Hd4.out, by omega, anySp _, Hr4.out⟩
end Go.Proofs.Ytfajmlkiidnhlaa
