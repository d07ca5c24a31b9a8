/- Texts merged (a claim holds at most sixty files): Fs, Fo. -/
import Derived.Test.YtfajmlkiidnhlaaQ4Nr
import Derived.Test.YtfajmlkiidnhlaaQ4Dp
import Derived.Test.YtfajmlkiidnhlaaQ4A
/- The lexicographically least of lists of one length; the product of the numbers of spans where sets may be given up. Plain Lean. -/
namespace Go.Proofs.Ytfajmlkiidnhlaa
set_option linter.unusedVariables false
set_option linter.unusedSimpArgs false

def Lex (a b : List Int) : Prop := ∃ i, i < a.length ∧ (∀ j, j < i → inAt a j = inAt b j) ∧ inAt a i < inAt b i
theorem lex_step {a b : List Int} {i : Nat} (hi : i < a.length) (h : ∀ j, j < i → inAt a j = inAt b j) (hne : inAt a i ≠ inAt b i) : Lex a b ↔ inAt a i < inAt b i := by
  constructor
  · rintro ⟨k, hk, h1, h2⟩
    rcases Nat.lt_trichotomy i k with e | e | e
    · exact absurd (h1 i e) hne
    · subst e; exact h2
    · have := h k e; omega
  · exact fun h2 => ⟨i, hi, h, h2⟩
theorem lex_end {a b : List Int} (h : ∀ j, j < a.length → inAt a j = inAt b j) : ¬ Lex a b := by
  rintro ⟨k, hk, _, h2⟩
  have := h k hk
  omega
theorem lex_irr (a : List Int) : ¬ Lex a a := lex_end (fun _ _ => rfl)
theorem nat_least {p : Nat → Prop} : ∀ n, (∃ i, i < n ∧ p i) → ∃ i, i < n ∧ p i ∧ ∀ j, j < i → ¬ p j
  | 0, ⟨i, hi, _⟩ => absurd hi (by omega)
  | n + 1, ⟨i, hi, hp⟩ => by
    by_cases h : ∃ i, i < n ∧ p i
    · obtain ⟨k, hk, h1, h2⟩ := nat_least n h
      exact ⟨k, by omega, h1, h2⟩
    · have : i = n := by
        rcases Nat.lt_or_ge i n with e | e
        · exact absurd ⟨i, e, hp⟩ h
        · omega
      subst this
      exact ⟨i, hi, hp, fun j hj hpj => h ⟨j, hj, hpj⟩⟩
theorem lex_total {a b : List Int} (hl : a.length = b.length) (h1 : ¬ Lex a b) (h2 : ¬ Lex b a) : a = b := by
  refine list_ext hl (fun i hi => ?_)
  by_cases h : ∃ i, i < a.length ∧ inAt a i ≠ inAt b i
  · obtain ⟨k, hk, h3, h4⟩ := nat_least _ h
    have h5 : ∀ j, j < k → inAt a j = inAt b j := fun j hj => Classical.not_not.1 (h4 j hj)
    rcases Int.lt_trichotomy (inAt a k) (inAt b k) with e | e | e
    · exact absurd ⟨k, hk, h5, e⟩ h1
    · exact absurd e h3
    · exact absurd ⟨k, by omega, fun j hj => (h5 j hj).symm, e⟩ h2
  · exact Classical.not_not.1 (fun hh => h ⟨i, hi, hh⟩)
theorem lex_trans {a b c : List Int} (hl : a.length = b.length) (h1 : Lex a b) (h2 : Lex b c) : Lex a c := by
  obtain ⟨i, hi, h3, h4⟩ := h1
  obtain ⟨k, hk, h5, h6⟩ := h2
  rcases Nat.lt_trichotomy i k with e | e | e
  · exact ⟨i, hi, fun j hj => (h3 j hj).trans (h5 j (by omega)), by have := h5 i e; omega⟩
  · subst e; exact ⟨i, hi, fun j hj => (h3 j hj).trans (h5 j hj), by omega⟩
  · exact ⟨k, by omega, fun j hj => (h3 j (by omega)).trans (h5 j hj), by have := h3 k e; omega⟩
noncomputable def pick (o : Option (List Int)) (x : List Int) : Option (List Int) :=
  match o with
  | none => some x
  | some b => bif B (Lex x b) then some x else some b
noncomputable def bestL (l : List (List Int)) : Option (List Int) := l.foldl pick none
theorem bestL_snoc (l : List (List Int)) (x : List Int) : bestL (l ++ [x]) = pick (bestL l) x := by
  unfold bestL
  rw [List.foldl_append]
  rfl
theorem pick_none (x : List Int) : pick none x = some x := rfl
theorem pick_yes {b x : List Int} (h : Lex x b) : pick (some b) x = some x := by unfold pick; simp only; rw [B_true h]; rfl
theorem pick_no {b x : List Int} (h : ¬ Lex x b) : pick (some b) x = some b := by unfold pick; simp only; rw [B_false h]; rfl
theorem best_from {N : Nat} : ∀ (l : List (List Int)) (m : List Int), m.length = N → (∀ x, x ∈ l → x.length = N) →
    ∃ m', l.foldl pick (some m) = some m' ∧ (m' = m ∨ m' ∈ l) ∧ ¬ Lex m m' ∧ ∀ x, x ∈ l → ¬ Lex x m'
  | [], m, _, _ => ⟨m, rfl, .inl rfl, lex_irr m, fun x hx => by cases hx⟩
  | y :: l, m, hm, hl => by
    have hy : y.length = N := hl y (by simp)
    have hl' : ∀ x, x ∈ l → x.length = N := fun x hx => hl x (by simp [hx])
    by_cases h : Lex y m
    · obtain ⟨m', h1, h2, h3, h4⟩ := best_from l y hy hl'
      refine ⟨m', by rw [List.foldl_cons, pick_yes h]; exact h1, .inr ?_, fun hh => h3 (lex_trans (by omega) h hh), fun x hx => ?_⟩
      · rcases h2 with h2 | h2
        · rw [h2]; simp
        · simp [h2]
      · rcases List.mem_cons.1 hx with e | e
        · subst e; exact h3
        · exact h4 x e
    · obtain ⟨m', h1, h2, h3, h4⟩ := best_from l m hm hl'
      have hm' : m'.length = N := by
        rcases h2 with h2 | h2
        · rw [h2]; exact hm
        · exact hl' m' h2
      refine ⟨m', by rw [List.foldl_cons, pick_no h]; exact h1, ?_, h3, fun x hx => ?_⟩
      · rcases h2 with h2 | h2
        · exact .inl h2
        · exact .inr (by simp [h2])
      · rcases List.mem_cons.1 hx with e | e
        · subst e
          intro hh
          by_cases h5 : Lex m' m
          · exact h (lex_trans (by omega) hh h5)
          · have e2 := lex_total (by omega) h5 h3
            rw [e2] at hh
            exact h hh
        · exact h4 x e
theorem best_some {N : Nat} {l : List (List Int)} (hl : ∀ x, x ∈ l → x.length = N) (h0 : l ≠ []) : ∃ m, bestL l = some m ∧ m ∈ l ∧ ∀ x, x ∈ l → ¬ Lex x m := by
  match l, h0 with
  | y :: l, _ =>
    obtain ⟨m, h1, h2, h3, h4⟩ := best_from l y (hl y (by simp)) (fun x hx => hl x (by simp [hx]))
    refine ⟨m, h1, ?_, fun x hx => ?_⟩
    · rcases h2 with h2 | h2
      · rw [h2]; simp
      · simp [h2]
    · rcases List.mem_cons.1 hx with e | e
      · subst e; exact h3
      · exact h4 x e
theorem best_same {N : Nat} {l l' : List (List Int)} (hl : ∀ x, x ∈ l → x.length = N) (h : ∀ x, x ∈ l ↔ x ∈ l') : bestL l = bestL l' := by
  by_cases h0 : l = []
  · subst h0
    have : l' = [] := List.eq_nil_iff_forall_not_mem.2 (fun x hx => by have := (h x).2 hx; cases this)
    rw [this]
  · have h0' : l' ≠ [] := fun e => by
      subst e
      exact h0 (List.eq_nil_iff_forall_not_mem.2 (fun x hx => by have := (h x).1 hx; cases this))
    have hl' : ∀ x, x ∈ l' → x.length = N := fun x hx => hl x ((h x).2 hx)
    obtain ⟨m, h1, h2, h3⟩ := best_some hl h0
    obtain ⟨m', h1', h2', h3'⟩ := best_some hl' h0'
    rw [h1, h1', lex_total (by rw [hl m h2, hl' m' h2']) (h3' m ((h m).1 h2)) (h3 m' ((h m').2 h2'))]

/-! ### the choices that have solutions, in the one order and in the other -/
noncomputable def okCh (ls : List Lk) (l : List (List Sp)) : List (List Sp) := l.filter (fun c => B (ChOk ls c))
theorem okCh_yes {ls : List Lk} {l : List (List Sp)} {c : List Sp} (h : ChOk ls c) : okCh ls (l ++ [c]) = okCh ls l ++ [c] := by
  unfold okCh
  rw [List.filter_append]
  simp [B_true h]
theorem okCh_no {ls : List Lk} {l : List (List Sp)} {c : List Sp} (h : ¬ ChOk ls c) : okCh ls (l ++ [c]) = okCh ls l := by
  unfold okCh
  rw [List.filter_append]
  simp [B_false h]
theorem mem_okCh {ls : List Lk} {l : List (List Sp)} {c : List Sp} : c ∈ okCh ls l ↔ c ∈ l ∧ ChOk ls c := by
  unfold okCh
  rw [List.mem_filter, B_iff]
def numCh (l : List (List Sp)) : Nat → List (List Sp)
  | 0 => []
  | k + 1 => numCh l k ++ [chN l k]
theorem mem_numCh {l : List (List Sp)} {c : List Sp} : ∀ k, c ∈ numCh l k ↔ ∃ i, i < k ∧ chN l i = c
  | 0 => by simp [numCh]
  | k + 1 => by
    rw [numCh, List.mem_append, mem_numCh k]
    constructor
    · rintro (⟨i, hi, e⟩ | h)
      · exact ⟨i, by omega, e⟩
      · exact ⟨k, by omega, (by simpa using h : c = chN l k).symm⟩
    · rintro ⟨i, hi, e⟩
      by_cases h : i = k
      · subst h; right; simp [e]
      · left; exact ⟨i, by omega, e⟩
theorem mem_both {l : List (List Sp)} {c : List Sp} : c ∈ numCh l (prodN l) ↔ c ∈ allCh l [] := by
  rw [mem_numCh, mem_allCh]
  constructor
  · rintro ⟨i, hi, e⟩
    exact ⟨c, by rw [← e]; exact chN_isCh l i hi, rfl⟩
  · rintro ⟨t, h1, e⟩
    obtain ⟨k, hk, e2⟩ := isCh_chN h1
    exact ⟨k, hk, by rw [e2, e]; rfl⟩
noncomputable def lows (ls : List Lk) (l : List (List Sp)) : List (List Int) := (okCh ls l).map (lowV ls)
theorem mem_allCh_len {l : List (List Sp)} {c : List Sp} (h : c ∈ allCh l []) : c.length = l.length := by
  obtain ⟨t, h1, e⟩ := mem_allCh.1 h
  rw [e]
  exact h1.len
theorem best_both (n : Net) : bestL (lows n.links (numCh n.sets (prodN n.sets))) = bestL (lows n.links (allCh n.sets [])) := by
  refine best_same (N := n.sets.length) (fun x hx => ?_) (fun x => ?_)
  · unfold lows at hx
    obtain ⟨c, hc, e⟩ := List.mem_map.1 hx
    rw [← e, lowV_len]
    exact mem_allCh_len (mem_both.1 (mem_okCh.1 hc).1)
  · unfold lows
    rw [List.mem_map, List.mem_map]
    constructor
    · rintro ⟨c, hc, e⟩
      exact ⟨c, mem_okCh.2 ⟨mem_both.1 (mem_okCh.1 hc).1, (mem_okCh.1 hc).2⟩, e⟩
    · rintro ⟨c, hc, e⟩
      exact ⟨c, mem_okCh.2 ⟨mem_both.2 (mem_okCh.1 hc).1, (mem_okCh.1 hc).2⟩, e⟩
theorem sol_okCh (n : Net) : Sol n ↔ okCh n.links (allCh n.sets []) ≠ [] := by
  rw [sol_all]
  constructor
  · rintro ⟨c, h1, h2⟩ e
    have := mem_okCh.2 ⟨h1, h2⟩
    rw [e] at this
    cases this
  · intro h
    match hh : okCh n.links (allCh n.sets []), h with
    | c :: r, _ =>
      have : c ∈ okCh n.links (allCh n.sets []) := by rw [hh]; simp
      exact ⟨c, (mem_okCh.1 this).1, (mem_okCh.1 this).2⟩
end Go.Proofs.Ytfajmlkiidnhlaa

/- Contracts: lists compared: slices.Compare, l20Less. -/
namespace Go.Proofs.Ytfajmlkiidnhlaa
set_option linter.unusedVariables false
set_option linter.unusedSimpArgs false
open Go.RowKit
attribute [local go_sem] cell_onto

noncomputable def cmpL (a b : List Int) : Int := bif B (Lex a b) then -1 else bif B (Lex b a) then 1 else 0
theorem cmpL_lt {a b : List Int} (h : Lex a b) : cmpL a b = -1 := by unfold cmpL; rw [B_true h]; rfl
theorem cmpL_ge {a b : List Int} (h : ¬ Lex a b) : 0 ≤ cmpL a b ∧ cmpL a b ≤ 1 := by
  unfold cmpL
  rw [B_false h]
  cases B (Lex b a)
  · exact ⟨Int.le_refl _, by decide⟩
  · exact ⟨by decide, Int.le_refl _⟩
theorem cmpL_gt {a b : List Int} (h : ¬ Lex a b) (h2 : Lex b a) : cmpL a b = 1 := by unfold cmpL; rw [B_false h, B_true h2]; rfl
theorem cmpL_eq {a b : List Int} (h : ¬ Lex a b) (h2 : ¬ Lex b a) : cmpL a b = 0 := by unfold cmpL; rw [B_false h, B_false h2]; rfl
theorem eqTo_step {a b : List Int} {j : Nat} (h : ∀ i, i < j → inAt a i = inAt b i) (h2 : inAt a j = inAt b j) : ∀ i, i < j + 1 → inAt a i = inAt b i := by
  intro i hi
  by_cases e : i = j
  · subst e; exact h2
  · exact h i (by omega)

set_option maxHeartbeats 400000 in
theorem isNaN_int64 (x : Int) (w : World) : Calls Try.prog 217 #[.int .i64 x] w (RetS (.bool false) w) := by
  have T : (x != x) = false := by simp
  go_enter Try.func217, Try.ntmps217
  go_wp2_with fail
  go_ret
  exact ⟨rfl, rfl⟩
set_option maxHeartbeats 1000000 in
theorem cmp_Compare (x y : Int) (w : World) : Calls Try.prog 189 #[.int .i64 x, .int .i64 y] w (RetS (.int .i64 (if x < y then -1 else if y < x then 1 else 0)) w) := by
  go_enter Try.func189, Try.ntmps189
  by_cases h1 : x < y
  · have T1 : decide (x < y) = true := decide_eq_true h1
    have Hv : Hid ((if x < y then (-1 : Int) else if y < x then 1 else 0) = -1) := Lib.hid (by rw [if_pos h1])
    rw [Hv.out]
    go_wp2_with (go_at_call 217; refine Calls.mono (isNaN_int64 _ _) ?_; rintro e w1 ⟨rfl, rfl⟩)
    go_ret
    exact ⟨rfl, rfl⟩
  · have T1 : decide (x < y) = false := decide_eq_false h1
    by_cases h2 : y < x
    · have T2 : decide (y < x) = true := decide_eq_true h2
      have Hv : Hid ((if x < y then (-1 : Int) else if y < x then 1 else 0) = 1) := Lib.hid (by rw [if_neg h1, if_pos h2])
      rw [Hv.out]
      go_wp2_with (go_at_call 217; refine Calls.mono (isNaN_int64 _ _) ?_; rintro e w1 ⟨rfl, rfl⟩)
      go_ret
      exact ⟨rfl, rfl⟩
    · have T2 : decide (y < x) = false := decide_eq_false h2
      have Hv : Hid ((if x < y then (-1 : Int) else if y < x then 1 else 0) = 0) := Lib.hid (by rw [if_neg h1, if_neg h2])
      rw [Hv.out]
      go_wp2_with (go_at_call 217; refine Calls.mono (isNaN_int64 _ _) ?_; rintro e w1 ⟨rfl, rfl⟩)
      go_ret
      exact ⟨rfl, rfl⟩
set_option maxHeartbeats 2000000 in
theorem slices_Compare_ints (v v' : Value) (a b : List Int) (w : World) (h : Ints w 0 w.heap.size v a) (h' : Ints w 0 w.heap.size v' b) (hl : a.length = b.length) :
    Calls Try.prog 110 #[v, v'] w (RetS (.int .i64 (cmpL a b)) w) := by
  obtain ⟨A, c, rfl, hn, hc⟩ := h.len
  obtain ⟨A', c', rfl, hn', hc'⟩ := h'.len
  have H := Lib.hid h
  have H' := Lib.hid h'
  rw [hl] at hn hc
  have Hl := Lib.hid hl
  rw [hl] at H ⊢
  clear h h' hl
  go_enter Try.func110, Try.ntmps110
  go_wp2_with fail
  go_loopg [5, 6, 7, 8, 11] b.length (fun q u5 u6 u7 u8 i wr => ∃ j : Nat, j + q = b.length ∧ i = .int .i64 j ∧ wr = w ∧ Hid (∀ i, i < j → inAt a i = inAt b i))
  case atStart => exact ⟨0, by omega, rfl, rfl, Lib.hid (fun i hi => absurd hi (by omega))⟩
  case round =>
    obtain ⟨j, hj, rfl, rfl, Heq⟩ := hrel
    by_cases hlt : j < b.length
    · obtain ⟨b1, o1, rfl, _, hb1, h1⟩ := H.out.at_ (i := j) (by have := Hl.out; omega)
      obtain ⟨b2, o2, rfl, _, hb2, h2⟩ := H'.out.at_ hlt
      have T1 : decide ((b.length : Int) ≤ (j : Int)) = false := decide_eq_false (by omega)
      have T1' : decide (b.length ≤ j) = false := decide_eq_false (by omega)
      go_wp2_with fail
      refine Calls.mono (cmp_Compare (inAt a j) (inAt b j) _) ?_
      rintro e w1 ⟨rfl, rfl⟩
      rcases Int.lt_trichotomy (inAt a j) (inAt b j) with hh | hh | hh
      · have Hr := Lib.hid (cmpL_lt ((lex_step (by have := Hl.out; omega) Heq.out (by omega)).2 hh))
        rw [if_pos hh, Hr.out]
        clear hh
        go_wp2_with fail
        go_ret
        exact ⟨by rw [Hr.out]; rfl, rfl⟩
      · have Hh := Lib.hid hh
        rw [if_neg (by omega), if_neg (by omega)]
        clear hh
        go_wp2_with fail
        go_roundg (b.length - (j + 1))
        case measure => omega
        case rel => exact ⟨j + 1, by omega, by go_num, rfl, Lib.hid (eqTo_step Heq.out Hh.out)⟩
      · have Hr := Lib.hid (cmpL_gt (a := a) (b := b) (fun hx => by have := (lex_step (by have := Hl.out; omega) Heq.out (by omega)).1 hx; omega) ((lex_step hlt (fun i hi => (Heq.out i hi).symm) (by omega)).2 hh))
        rw [if_neg (by omega), if_pos hh, Hr.out]
        clear hh
        go_wp2_with fail
        go_ret
        exact ⟨by rw [Hr.out]; rfl, rfl⟩
    · obtain rfl : j = b.length := by omega
      have Hr := Lib.hid (cmpL_eq (a := a) (b := b) (lex_end (fun i hi => Heq.out i (by have := Hl.out; omega))) (lex_end (fun i hi => (Heq.out i hi).symm)))
      rw [Hr.out]
      go_wp2_with fail
      go_ret
      exact ⟨by rw [Hr.out]; rfl, rfl⟩
set_option maxHeartbeats 2000000 in
theorem spec_l20Less (v v' : Value) (a b : List Int) (w : World) (h : Ints w 0 w.heap.size v a) (h' : Ints w 0 w.heap.size v' b) (hl : a.length = b.length) :
    Calls Try.prog 115 #[v, v'] w (RetX (.bool (B (Lex a b))) w) := by
  obtain ⟨A, c, rfl, hn, hc⟩ := h.len
  obtain ⟨A', c', rfl, hn', hc'⟩ := h'.len
  have H := Lib.hid h
  have H' := Lib.hid h'
  rw [hl] at hn hc
  have Hl := Lib.hid hl
  rw [hl] at H ⊢
  clear h h' hl
  go_enter Try.func115, Try.ntmps115
  go_wp2_with fail
  go_loopg [5] b.length (fun q i wr => ∃ j : Nat, j + q = b.length ∧ i = .int .i64 j ∧ Ext w wr ∧ Hid (∀ i, i < j → inAt a i = inAt b i))
  case atStart => exact ⟨0, by omega, rfl, Ext.refl _, Lib.hid (fun i hi => absurd hi (by omega))⟩
  case round =>
    obtain ⟨j, hj, rfl, hx, Heq⟩ := hrel
    have hxs := hx.size
    by_cases hlt : j < b.length
    · obtain ⟨b1, o1, rfl, _, hb1, h1⟩ := (H.out.ext hx (Nat.le_refl _)).at_ (i := j) (by have := Hl.out; omega)
      obtain ⟨b2, o2, rfl, _, hb2, h2⟩ := (H'.out.ext hx (Nat.le_refl _)).at_ hlt
      have hb1r : b1 < wr.heap.size := by omega
      have hb2r : b2 < wr.heap.size := by omega
      by_cases hh : inAt a j = inAt b j
      · have T : (inAt a j != inAt b j) = false := by simp [hh]
        have Hh := Lib.hid hh
        clear hh
        go_wp2_with fail
        (refine wp_region_onto prog_mixed (by kernel_rfl) ?_; (repeat (go_big_quiet_step ((fail)))); refine onto_end ?_; intro w1 hx1)
        go_wp2_with fail
        go_roundg (b.length - (j + 1))
        case measure => omega
        case rel => exact ⟨j + 1, by omega, by go_num, (by repeat (first | exact Ext.refl _ | assumption | refine Ext.alloc ?_ _ | refine Ext.drew ?_ | refine Ext.drewN ?_ _ | refine Ext.setCell ?_ (by first | (simp; done) | (simp; omega) | omega) _ | refine Ext.trans ?_ (by assumption))), Lib.hid (eqTo_step Heq.out Hh.out)⟩
      · have T : (inAt a j != inAt b j) = true := by simp [hh]
        have Hh := Lib.hid (lex_step (a := a) (b := b) (by have := Hl.out; omega) Heq.out hh)
        clear hh
        go_wp2_with fail
        (refine wp_region_onto prog_mixed (by kernel_rfl) ?_; (repeat (go_big_quiet_step ((fail)))); refine onto_end ?_; intro w1 hx1)
        have k1 : w1.cell? ⟨b1, o1 + j, none⟩ = some (.int .i64 (inAt a j)) := (hx1.cell (p := ⟨b1, o1 + j, none⟩) hb1r).trans h1
        have k2 : w1.cell? ⟨b2, o2 + j, none⟩ = some (.int .i64 (inAt b j)) := (hx1.cell (p := ⟨b2, o2 + j, none⟩) hb2r).trans h2
        have kz := hx1.size
        have hb1s : b1 < w1.heap.size := by omega
        have hb2s : b2 < w1.heap.size := by omega
        go_wp2_with fail
        (refine wp_region_onto prog_mixed (by kernel_rfl) ?_; (repeat (go_big_quiet_step ((fail)))); refine onto_end ?_; intro w2 hx2)
        go_wp2_with fail
        go_ret
        exact ⟨ret_bool (B_eq (by rw [Hh.out]; simp)), (by repeat (first | exact Ext.refl _ | assumption | refine Ext.alloc ?_ _ | refine Ext.drew ?_ | refine Ext.drewN ?_ _ | refine Ext.setCell ?_ (by first | (simp; done) | (simp; omega) | omega) _ | refine Ext.trans ?_ (by assumption)))⟩
    · obtain rfl : j = b.length := by omega
      have Hr := Lib.hid (B_false (lex_end (a := a) (b := b) (fun i hi => Heq.out i (by have := Hl.out; omega))))
      rw [Hr.out]
      go_wp2_with fail
      go_ret
      exact ⟨by rw [Hr.out]; rfl, (by repeat (first | exact Ext.refl _ | assumption | refine Ext.alloc ?_ _ | refine Ext.drew ?_ | refine Ext.drewN ?_ _ | refine Ext.setCell ?_ (by first | (simp; done) | (simp; omega) | omega) _ | refine Ext.trans ?_ (by assumption)))⟩
end Go.Proofs.Ytfajmlkiidnhlaa
