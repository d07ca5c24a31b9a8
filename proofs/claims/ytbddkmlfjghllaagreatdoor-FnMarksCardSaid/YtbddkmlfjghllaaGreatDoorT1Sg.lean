/- Texts merged (a claim holds at most sixty files): Sg, Fs, Fo, Yb. -/
import Derived.Test.YtbddkmlfjghllaaGreatDoorT1S
import Derived.Test.YtbddkmlfjghllaaGreatDoorT1A
import Derived.Test.YtbddkmlfjghllaaGreatDoorT1Up
import Derived.Test.YtbddkmlfjghllaaGreatDoorT1G
/- Networks in which statements are given up: plain data, and such a network under way in memory. No program in sight. -/
namespace Go.Proofs.YtbddkmlfjghllaaGreatDoor
set_option linter.unusedVariables false
set_option linter.unusedSimpArgs false
open Go.RowKit

/-! ### the plain data -/
def HasI (l : List Int) (x : Int) : Prop := ∃ i, i < l.length ∧ inAt l i = x
def StmOk (n : Net) (l : List Int) : Prop := ∀ i, i < l.length → (0 ≤ inAt l i ∧ inAt l i ≤ (n.sets.length : Int) + n.links.length - 1) ∧ (0 < i → inAt l (i - 1) < inAt l i)
noncomputable def stmE (n : Net) (l : List Int) : Int := bif B (NetOk n) then (bif B (StmOk n l) then 0 else 2) else 1
theorem stm_net {n : Net} {l : List Int} (h : ¬ NetOk n) : stmE n l = 1 := by unfold stmE; rw [B_false h]; rfl
theorem stm_bad {n : Net} {l : List Int} (h : NetOk n) (h2 : ¬ StmOk n l) : stmE n l = 2 := by unfold stmE; rw [B_true h, B_false h2]; rfl
theorem stm_ok {n : Net} {l : List Int} (h : NetOk n) (h2 : StmOk n l) : stmE n l = 0 := by unfold stmE; rw [B_true h, B_true h2]; rfl
def allDays : List Sp := [⟨0, 730499⟩]
noncomputable def gvS (is : Nat → Prop) (l : List (List Sp)) : Nat → List (List Sp)
  | 0 => []
  | j + 1 => gvS is l j ++ [bif B (is j) then allDays else setAt l j]
noncomputable def gvL (is : Nat → Prop) (N : Nat) (l : List Lk) : Nat → List Lk
  | 0 => []
  | j + 1 => bif B (is (N + j)) then gvL is N l j else gvL is N l j ++ [lkAt l j]
noncomputable def giveN (is : Nat → Prop) (n : Net) : Net := ⟨gvS is n.sets n.sets.length, gvL is n.sets.length n.links n.links.length⟩
theorem gvS_len (is : Nat → Prop) (l : List (List Sp)) : ∀ j, (gvS is l j).length = j
  | 0 => rfl
  | j + 1 => by unfold gvS; rw [List.length_append, gvS_len is l j]; rfl
theorem gvS_yes {is : Nat → Prop} {l : List (List Sp)} {j : Nat} (h : is j) : gvS is l (j + 1) = gvS is l j ++ [allDays] := by show gvS is l j ++ [bif B (is j) then _ else _] = _; rw [B_true h]; rfl
theorem gvS_no {is : Nat → Prop} {l : List (List Sp)} {j : Nat} (h : ¬ is j) : gvS is l (j + 1) = gvS is l j ++ [setAt l j] := by show gvS is l j ++ [bif B (is j) then _ else _] = _; rw [B_false h]; rfl
theorem gvL_yes {is : Nat → Prop} {N : Nat} {l : List Lk} {j : Nat} (h : is (N + j)) : gvL is N l (j + 1) = gvL is N l j := by show (bif B (is (N + j)) then _ else _) = _; rw [B_true h]; rfl
theorem gvL_no {is : Nat → Prop} {N : Nat} {l : List Lk} {j : Nat} (h : ¬ is (N + j)) : gvL is N l (j + 1) = gvL is N l j ++ [lkAt l j] := by show (bif B (is (N + j)) then _ else _) = _; rw [B_false h]; rfl
theorem gvL_len (is : Nat → Prop) (N : Nat) (l : List Lk) : ∀ j, (gvL is N l j).length ≤ j
  | 0 => Nat.le_refl _
  | j + 1 => by
    have ih := gvL_len is N l j
    by_cases h : is (N + j)
    · rw [gvL_yes h]; omega
    · rw [gvL_no h, List.length_append]; simp; omega
theorem gvS_at (is : Nat → Prop) (l : List (List Sp)) : ∀ j i, i < j → setAt (gvS is l j) i = bif B (is i) then allDays else setAt l i
  | 0, i, h => absurd h (by omega)
  | j + 1, i, h => by
    have hl := gvS_len is l j
    show setAt (gvS is l j ++ [bif B (is j) then allDays else setAt l j]) i = _
    rw [setAt_push _ _ (by omega), hl]
    by_cases e : i = j
    · rw [if_pos e, e]
    · rw [if_neg e]; exact gvS_at is l j i (by omega)
theorem allDays_ok : SetOk allDays := ⟨by simp [allDays], fun i hi => by
  have : i = 0 := by simp [allDays] at hi; omega
  subst this
  exact ⟨⟨⟨by decide, by decide⟩, ⟨by decide, by decide⟩, by decide⟩, fun h => absurd h (by omega)⟩⟩
theorem gvL_mem (is : Nat → Prop) (N : Nat) (l : List Lk) : ∀ j i, i < (gvL is N l j).length → ∃ i', i' < j ∧ lkAt (gvL is N l j) i = lkAt l i'
  | 0, i, h => absurd h (by simp [gvL])
  | j + 1, i, h => by
    by_cases hh : is (N + j)
    · rw [gvL_yes hh] at h ⊢
      obtain ⟨i', h1, h2⟩ := gvL_mem is N l j i h
      exact ⟨i', by omega, h2⟩
    · rw [gvL_no hh] at h ⊢
      rw [List.length_append] at h
      rw [lkAt_push _ _ h]
      by_cases e : i = (gvL is N l j).length
      · rw [if_pos e]; exact ⟨j, by omega, rfl⟩
      · rw [if_neg e]
        have h' : i < (gvL is N l j).length := by simp at h; omega
        obtain ⟨i', h1, h2⟩ := gvL_mem is N l j i h'
        exact ⟨i', by omega, h2⟩
theorem giveN_ok {is : Nat → Prop} {n : Net} (h : NetOk n) : NetOk (giveN is n) := by
  obtain ⟨h1, h2, h3, h4⟩ := h
  have hl := gvS_len is n.sets n.sets.length
  refine ⟨by show (gvS _ _ _).length ≤ 8; omega, Nat.le_trans (gvL_len _ _ _ _) h2, fun i hi => ?_, fun i hi => ?_⟩
  · have hi' : i < n.sets.length := by have : i < (gvS is n.sets n.sets.length).length := hi; omega
    show SetOk (setAt (gvS _ _ _) i)
    rw [gvS_at is n.sets _ i hi']
    cases B (is i)
    · exact h3 i hi'
    · exact allDays_ok
  · show LkOk (lkAt (gvL _ _ _ _) i) (gvS is n.sets n.sets.length).length
    obtain ⟨i', hi', e⟩ := gvL_mem is n.sets.length n.links n.links.length i hi
    rw [e, hl]
    exact h4 i' hi'

/-! ### under way -/
theorem Own.of_dst {w : World} {base n sz : Nat} {e : TypeId} {v : Value} {f : Nat → Value} (h : Dst w base e sz v n (cellsOf (n * sz) f)) :
    ∃ g, (0 < n → v.ownBlock = some g ∧ base ≤ g) ∧ Own w g sz v n f := by
  rcases h with h | ⟨h1, _, ⟨A, e⟩, _⟩
  · exact Own.of_owned h
  · exact ⟨0, fun h => absurd h (by omega), by rw [h1]; exact ⟨Nat.zero_le _, A, 0, e, Nat.le_refl _, fun h => absurd h (by omega)⟩⟩
def GvSt (TL : Nat) (w : World) (go b1 : Nat) (s0 k0 : Value) (sets : List (List Sp)) (links : List Lk) (sv kv : Value) (wr : World) : Prop :=
  Ext w wr ∧ Boxed wr w.heap.size [s0, k0] ∧ Boxed wr (w.heap.size + 1) [.slice none 0 0, .slice none 0 0] ∧ Boxed wr go [sv, kv] ∧ w.heap.size + 1 < go ∧ go < b1 ∧ b1 ≤ wr.heap.size ∧
    OwnSets wr (go + 1) b1 sv sets ∧ Dst wr b1 TL 4 kv links.length (cellsOf (links.length * 4) (linkCell links))
theorem Dst.ext {w w' : World} {b : Nat} {e : TypeId} {sz n : Nat} {v : Value} {xs : List Value} (h : Dst w b e sz v n xs) (hx : Ext w w') : Dst w' b e sz v n xs :=
  h.off (S := fun _ => False) (Off.of_ext hx) (fun _ _ h => h)
theorem GvSt.ext {TL : Nat} {w wr w2 : World} {go b1 : Nat} {s0 k0 sv kv : Value} {sets : List (List Sp)} {links : List Lk} (h : GvSt TL w go b1 s0 k0 sets links sv kv wr) (hx : Ext wr w2) : GvSt TL w go b1 s0 k0 sets links sv kv w2 := by
  obtain ⟨h1, h2, h3, h4, h5, h6, h7, h8, h9⟩ := h
  exact ⟨h1.trans hx, h2.ext hx, h3.ext hx, h4.ext hx, h5, h6, Nat.le_trans h7 hx.size, h8.ext hx, h9.ext hx⟩
theorem GvSt.push {TL : Nat} {w wr w2 w3 : World} {go b1 : Nat} {s0 k0 sv kv k3 : Value} {sets : List (List Sp)} {links : List Lk} {l : Lk} (h : GvSt TL w go b1 s0 k0 sets links sv kv wr) (hx : Ext wr w2)
    (hp : Put b1 w2 kv w3 k3) (h4 : w3.ownsRow b1 TL 4 k3 (links.length + 1) (cellsOf (links.length * 4) (linkCell links) ++ cellsOf (1 * 4) (linkCell [l]))) :
    GvSt TL w go b1 s0 k0 sets (links ++ [l]) sv k3 (w3.setCell ⟨go, 1, none⟩ k3) := by
  obtain ⟨a1, a2, a3, a4, a5, a6, a7, a8, a9⟩ := h.ext hx
  have no : ∀ {k : Nat}, k < b1 → ¬ (b1 ≤ k ∧ k < w2.heap.size ∧ kv.ownBlock = some k) := fun hk hh => by have := hh.1; omega
  have hs : Off (fun k => k = go) w3 (w3.setCell ⟨go, 1, none⟩ k3) := Off.setCell (S := fun k => k = go) (p := ⟨go, 1, none⟩) (Off.refl _ _) (.inl rfl) _
  have hz := hp.size
  have hz2 := hs.size
  refine ⟨(hp.ext a1 (by omega)).off hs (fun k hk hh => by omega), (a2.off hp.1 (no (by omega))).off hs (fun hh => by omega), (a3.off hp.1 (no (by omega))).off hs (fun hh => by omega),
    (a4.off hp.1 (no (by omega))).set 1 k3 (by simp), a5, a6, by omega, (a8.off hp.1 (fun k h1 h2 => no h2)).off hs (fun k h1 h2 hh => by omega), .inl ?_⟩
  rw [← linkCells_push]
  refine ownsRow_off ?_ hs (fun g hg hh => by have := (h4.lt g hg).1; omega)
  simpa using h4
theorem GvSt.done {TL : Nat} {w wr : World} {go b1 : Nat} {s0 k0 sv kv : Value} {sets : List (List Sp)} {links : List Lk} (h : GvSt TL w go b1 s0 k0 sets links sv kv wr) :
    NewNet ⟨sets, links⟩ w (.returned (.agg #[sv, kv])) ((wr.setCell ⟨w.heap.size + 1, 0, none⟩ sv).setCell ⟨w.heap.size + 1, 1, none⟩ kv) := by
  obtain ⟨a1, a2, a3, a4, a5, a6, a7, a8, a9⟩ := h
  have hs : Off (fun k => k = w.heap.size + 1) wr ((wr.setCell ⟨w.heap.size + 1, 0, none⟩ sv).setCell ⟨w.heap.size + 1, 1, none⟩ kv) :=
    Off.setCell (S := fun k => k = w.heap.size + 1) (p := ⟨w.heap.size + 1, 1, none⟩) (Off.setCell (S := fun k => k = w.heap.size + 1) (p := ⟨w.heap.size + 1, 0, none⟩) (Off.refl _ _) (.inl rfl) _) (.inl rfl) _
  have hz := hs.size
  obtain ⟨gk, h1, h2⟩ := Own.of_dst a9
  refine ⟨sv, kv, rfl, a1.off hs (fun k hk hh => by omega), sv, kv, go + 1, b1, gk, rfl, by omega, by omega, a8.off hs (fun k h1 h2 hh => by omega), h2.off hs (fun hn hh => by have := (h1 hn).2; omega), fun hn => ?_⟩
  have h3 := (h1 hn).2
  have h4 := h2.lt hn
  exact ⟨by omega, by omega, by omega⟩
theorem GvSt.start {TL TS : Nat} {w wr : World} {go : Nat} {s0 k0 kv sv : Value} {sets : List (List Sp)} (h : OwnSt TL TS w go s0 k0 kv noNet sets sv wr) (hk : ∃ A, kv = .slice A 0 0) :
    GvSt TL w go wr.heap.size s0 k0 sets [] sv kv wr := by
  obtain ⟨hx, h1, h2, hb, h3, h5, _, h4⟩ := h
  refine ⟨hx, h1, h2, hb, h3, hb.1, Nat.le_refl _, h4.sets, .inr ⟨rfl, by simp [cellsOf], hk, fun g hg => (h5.lt g hg).2⟩⟩
end Go.Proofs.YtbddkmlfjghllaaGreatDoor

/- The lexicographically least of lists of one length; the product of the numbers of spans where sets may be given up. Plain Lean. -/
namespace Go.Proofs.YtbddkmlfjghllaaGreatDoor
set_option linter.unusedVariables false
set_option linter.unusedSimpArgs false

def Lex (a b : List Int) : Prop := ∃ i, i < a.length ∧ (∀ j, j < i → inAt a j = inAt b j) ∧ inAt a i < inAt b i
theorem lex_step {a b : List Int} {i : Nat} (hi : i < a.length) (h : ∀ j, j < i → inAt a j = inAt b j) (hne : inAt a i ≠ inAt b i) : Lex a b ↔ inAt a i < inAt b i := by
  constructor
  · rintro ⟨k, hk, h1, h2⟩
    rcases Nat.lt_trichotomy i k with e | e | e
    · exact absurd (h1 i e) hne
    · subst e; exact h2
    · have := h k e; omega
  · exact fun h2 => ⟨i, hi, h, h2⟩
theorem lex_end {a b : List Int} (h : ∀ j, j < a.length → inAt a j = inAt b j) : ¬ Lex a b := by
  rintro ⟨k, hk, _, h2⟩
  have := h k hk
  omega
theorem lex_irr (a : List Int) : ¬ Lex a a := lex_end (fun _ _ => rfl)
theorem nat_least {p : Nat → Prop} : ∀ n, (∃ i, i < n ∧ p i) → ∃ i, i < n ∧ p i ∧ ∀ j, j < i → ¬ p j
  | 0, ⟨i, hi, _⟩ => absurd hi (by omega)
  | n + 1, ⟨i, hi, hp⟩ => by
    by_cases h : ∃ i, i < n ∧ p i
    · obtain ⟨k, hk, h1, h2⟩ := nat_least n h
      exact ⟨k, by omega, h1, h2⟩
    · have : i = n := by
        rcases Nat.lt_or_ge i n with e | e
        · exact absurd ⟨i, e, hp⟩ h
        · omega
      subst this
      exact ⟨i, hi, hp, fun j hj hpj => h ⟨j, hj, hpj⟩⟩
theorem lex_total {a b : List Int} (hl : a.length = b.length) (h1 : ¬ Lex a b) (h2 : ¬ Lex b a) : a = b := by
  refine list_ext hl (fun i hi => ?_)
  by_cases h : ∃ i, i < a.length ∧ inAt a i ≠ inAt b i
  · obtain ⟨k, hk, h3, h4⟩ := nat_least _ h
    have h5 : ∀ j, j < k → inAt a j = inAt b j := fun j hj => Classical.not_not.1 (h4 j hj)
    rcases Int.lt_trichotomy (inAt a k) (inAt b k) with e | e | e
    · exact absurd ⟨k, hk, h5, e⟩ h1
    · exact absurd e h3
    · exact absurd ⟨k, by omega, fun j hj => (h5 j hj).symm, e⟩ h2
  · exact Classical.not_not.1 (fun hh => h ⟨i, hi, hh⟩)
theorem lex_trans {a b c : List Int} (hl : a.length = b.length) (h1 : Lex a b) (h2 : Lex b c) : Lex a c := by
  obtain ⟨i, hi, h3, h4⟩ := h1
  obtain ⟨k, hk, h5, h6⟩ := h2
  rcases Nat.lt_trichotomy i k with e | e | e
  · exact ⟨i, hi, fun j hj => (h3 j hj).trans (h5 j (by omega)), by have := h5 i e; omega⟩
  · subst e; exact ⟨i, hi, fun j hj => (h3 j hj).trans (h5 j hj), by omega⟩
  · exact ⟨k, by omega, fun j hj => (h3 j (by omega)).trans (h5 j hj), by have := h3 k e; omega⟩
noncomputable def pick (o : Option (List Int)) (x : List Int) : Option (List Int) :=
  match o with
  | none => some x
  | some b => bif B (Lex x b) then some x else some b
noncomputable def bestL (l : List (List Int)) : Option (List Int) := l.foldl pick none
theorem bestL_snoc (l : List (List Int)) (x : List Int) : bestL (l ++ [x]) = pick (bestL l) x := by
  unfold bestL
  rw [List.foldl_append]
  rfl
theorem pick_none (x : List Int) : pick none x = some x := rfl
theorem pick_yes {b x : List Int} (h : Lex x b) : pick (some b) x = some x := by unfold pick; simp only; rw [B_true h]; rfl
theorem pick_no {b x : List Int} (h : ¬ Lex x b) : pick (some b) x = some b := by unfold pick; simp only; rw [B_false h]; rfl
theorem best_from {N : Nat} : ∀ (l : List (List Int)) (m : List Int), m.length = N → (∀ x, x ∈ l → x.length = N) →
    ∃ m', l.foldl pick (some m) = some m' ∧ (m' = m ∨ m' ∈ l) ∧ ¬ Lex m m' ∧ ∀ x, x ∈ l → ¬ Lex x m'
  | [], m, _, _ => ⟨m, rfl, .inl rfl, lex_irr m, fun x hx => by cases hx⟩
  | y :: l, m, hm, hl => by
    have hy : y.length = N := hl y (by simp)
    have hl' : ∀ x, x ∈ l → x.length = N := fun x hx => hl x (by simp [hx])
    by_cases h : Lex y m
    · obtain ⟨m', h1, h2, h3, h4⟩ := best_from l y hy hl'
      refine ⟨m', by rw [List.foldl_cons, pick_yes h]; exact h1, .inr ?_, fun hh => h3 (lex_trans (by omega) h hh), fun x hx => ?_⟩
      · rcases h2 with h2 | h2
        · rw [h2]; simp
        · simp [h2]
      · rcases List.mem_cons.1 hx with e | e
        · subst e; exact h3
        · exact h4 x e
    · obtain ⟨m', h1, h2, h3, h4⟩ := best_from l m hm hl'
      have hm' : m'.length = N := by
        rcases h2 with h2 | h2
        · rw [h2]; exact hm
        · exact hl' m' h2
      refine ⟨m', by rw [List.foldl_cons, pick_no h]; exact h1, ?_, h3, fun x hx => ?_⟩
      · rcases h2 with h2 | h2
        · exact .inl h2
        · exact .inr (by simp [h2])
      · rcases List.mem_cons.1 hx with e | e
        · subst e
          intro hh
          by_cases h5 : Lex m' m
          · exact h (lex_trans (by omega) hh h5)
          · have e2 := lex_total (by omega) h5 h3
            rw [e2] at hh
            exact h hh
        · exact h4 x e
theorem best_some {N : Nat} {l : List (List Int)} (hl : ∀ x, x ∈ l → x.length = N) (h0 : l ≠ []) : ∃ m, bestL l = some m ∧ m ∈ l ∧ ∀ x, x ∈ l → ¬ Lex x m := by
  match l, h0 with
  | y :: l, _ =>
    obtain ⟨m, h1, h2, h3, h4⟩ := best_from l y (hl y (by simp)) (fun x hx => hl x (by simp [hx]))
    refine ⟨m, h1, ?_, fun x hx => ?_⟩
    · rcases h2 with h2 | h2
      · rw [h2]; simp
      · simp [h2]
    · rcases List.mem_cons.1 hx with e | e
      · subst e; exact h3
      · exact h4 x e
theorem best_same {N : Nat} {l l' : List (List Int)} (hl : ∀ x, x ∈ l → x.length = N) (h : ∀ x, x ∈ l ↔ x ∈ l') : bestL l = bestL l' := by
  by_cases h0 : l = []
  · subst h0
    have : l' = [] := List.eq_nil_iff_forall_not_mem.2 (fun x hx => by have := (h x).2 hx; cases this)
    rw [this]
  · have h0' : l' ≠ [] := fun e => by
      subst e
      exact h0 (List.eq_nil_iff_forall_not_mem.2 (fun x hx => by have := (h x).1 hx; cases this))
    have hl' : ∀ x, x ∈ l' → x.length = N := fun x hx => hl x ((h x).2 hx)
    obtain ⟨m, h1, h2, h3⟩ := best_some hl h0
    obtain ⟨m', h1', h2', h3'⟩ := best_some hl' h0'
    rw [h1, h1', lex_total (by rw [hl m h2, hl' m' h2']) (h3' m ((h m).1 h2)) (h3 m' ((h m').2 h2'))]

/-! ### the choices that have solutions, in the one order and in the other -/
noncomputable def okCh (ls : List Lk) (l : List (List Sp)) : List (List Sp) := l.filter (fun c => B (ChOk ls c))
theorem okCh_yes {ls : List Lk} {l : List (List Sp)} {c : List Sp} (h : ChOk ls c) : okCh ls (l ++ [c]) = okCh ls l ++ [c] := by
  unfold okCh
  rw [List.filter_append]
  simp [B_true h]
theorem okCh_no {ls : List Lk} {l : List (List Sp)} {c : List Sp} (h : ¬ ChOk ls c) : okCh ls (l ++ [c]) = okCh ls l := by
  unfold okCh
  rw [List.filter_append]
  simp [B_false h]
theorem mem_okCh {ls : List Lk} {l : List (List Sp)} {c : List Sp} : c ∈ okCh ls l ↔ c ∈ l ∧ ChOk ls c := by
  unfold okCh
  rw [List.mem_filter, B_iff]
def numCh (l : List (List Sp)) : Nat → List (List Sp)
  | 0 => []
  | k + 1 => numCh l k ++ [chN l k]
theorem mem_numCh {l : List (List Sp)} {c : List Sp} : ∀ k, c ∈ numCh l k ↔ ∃ i, i < k ∧ chN l i = c
  | 0 => by simp [numCh]
  | k + 1 => by
    rw [numCh, List.mem_append, mem_numCh k]
    constructor
    · rintro (⟨i, hi, e⟩ | h)
      · exact ⟨i, by omega, e⟩
      · exact ⟨k, by omega, (by simpa using h : c = chN l k).symm⟩
    · rintro ⟨i, hi, e⟩
      by_cases h : i = k
      · subst h; right; simp [e]
      · left; exact ⟨i, by omega, e⟩
theorem mem_both {l : List (List Sp)} {c : List Sp} : c ∈ numCh l (prodN l) ↔ c ∈ allCh l [] := by
  rw [mem_numCh, mem_allCh]
  constructor
  · rintro ⟨i, hi, e⟩
    exact ⟨c, by rw [← e]; exact chN_isCh l i hi, rfl⟩
  · rintro ⟨t, h1, e⟩
    obtain ⟨k, hk, e2⟩ := isCh_chN h1
    exact ⟨k, hk, by rw [e2, e]; rfl⟩
noncomputable def lows (ls : List Lk) (l : List (List Sp)) : List (List Int) := (okCh ls l).map (lowV ls)
theorem mem_allCh_len {l : List (List Sp)} {c : List Sp} (h : c ∈ allCh l []) : c.length = l.length := by
  obtain ⟨t, h1, e⟩ := mem_allCh.1 h
  rw [e]
  exact h1.len
theorem best_both (n : Net) : bestL (lows n.links (numCh n.sets (prodN n.sets))) = bestL (lows n.links (allCh n.sets [])) := by
  refine best_same (N := n.sets.length) (fun x hx => ?_) (fun x => ?_)
  · unfold lows at hx
    obtain ⟨c, hc, e⟩ := List.mem_map.1 hx
    rw [← e, lowV_len]
    exact mem_allCh_len (mem_both.1 (mem_okCh.1 hc).1)
  · unfold lows
    rw [List.mem_map, List.mem_map]
    constructor
    · rintro ⟨c, hc, e⟩
      exact ⟨c, mem_okCh.2 ⟨mem_both.1 (mem_okCh.1 hc).1, (mem_okCh.1 hc).2⟩, e⟩
    · rintro ⟨c, hc, e⟩
      exact ⟨c, mem_okCh.2 ⟨mem_both.2 (mem_okCh.1 hc).1, (mem_okCh.1 hc).2⟩, e⟩
theorem sol_okCh (n : Net) : Sol n ↔ okCh n.links (allCh n.sets []) ≠ [] := by
  rw [sol_all]
  constructor
  · rintro ⟨c, h1, h2⟩ e
    have := mem_okCh.2 ⟨h1, h2⟩
    rw [e] at this
    cases this
  · intro h
    match hh : okCh n.links (allCh n.sets []), h with
    | c :: r, _ =>
      have : c ∈ okCh n.links (allCh n.sets []) := by rw [hh]; simp
      exact ⟨c, (mem_okCh.1 this).1, (mem_okCh.1 this).2⟩
end Go.Proofs.YtbddkmlfjghllaaGreatDoor

/- Contracts: lists compared: slices.Compare, l20Less. -/
namespace Go.Proofs.YtbddkmlfjghllaaGreatDoor
set_option linter.unusedVariables false
set_option linter.unusedSimpArgs false
open Go.RowKit
attribute [local go_sem] cell_onto

noncomputable def cmpL (a b : List Int) : Int := bif B (Lex a b) then -1 else bif B (Lex b a) then 1 else 0
theorem cmpL_lt {a b : List Int} (h : Lex a b) : cmpL a b = -1 := by unfold cmpL; rw [B_true h]; rfl
theorem cmpL_ge {a b : List Int} (h : ¬ Lex a b) : 0 ≤ cmpL a b ∧ cmpL a b ≤ 1 := by
  unfold cmpL
  rw [B_false h]
  cases B (Lex b a)
  · exact ⟨Int.le_refl _, by decide⟩
  · exact ⟨by decide, Int.le_refl _⟩
theorem cmpL_gt {a b : List Int} (h : ¬ Lex a b) (h2 : Lex b a) : cmpL a b = 1 := by unfold cmpL; rw [B_false h, B_true h2]; rfl
theorem cmpL_eq {a b : List Int} (h : ¬ Lex a b) (h2 : ¬ Lex b a) : cmpL a b = 0 := by unfold cmpL; rw [B_false h, B_false h2]; rfl
theorem eqTo_step {a b : List Int} {j : Nat} (h : ∀ i, i < j → inAt a i = inAt b i) (h2 : inAt a j = inAt b j) : ∀ i, i < j + 1 → inAt a i = inAt b i := by
  intro i hi
  by_cases e : i = j
  · subst e; exact h2
  · exact h i (by omega)

set_option maxHeartbeats 400000 in
theorem isNaN_int64 (x : Int) (w : World) : Calls Tryz.prog 155 #[.int .i64 x] w (RetS (.bool false) w) := by
  have T : (x != x) = false := by simp
  go_enter Tryz.func155, Tryz.ntmps155
  go_wp2_with fail
  go_ret
  exact ⟨rfl, rfl⟩
set_option maxHeartbeats 1000000 in
theorem cmp_Compare (x y : Int) (w : World) : Calls Tryz.prog 94 #[.int .i64 x, .int .i64 y] w (RetS (.int .i64 (if x < y then -1 else if y < x then 1 else 0)) w) := by
  go_enter Tryz.func94, Tryz.ntmps94
  by_cases h1 : x < y
  · have T1 : decide (x < y) = true := decide_eq_true h1
    have Hv : Hid ((if x < y then (-1 : Int) else if y < x then 1 else 0) = -1) := Lib.hid (by rw [if_pos h1])
    rw [Hv.out]
    go_wp2_with (go_at_call 155; refine Calls.mono (isNaN_int64 _ _) ?_; rintro e w1 ⟨rfl, rfl⟩)
    go_ret
    exact ⟨rfl, rfl⟩
  · have T1 : decide (x < y) = false := decide_eq_false h1
    by_cases h2 : y < x
    · have T2 : decide (y < x) = true := decide_eq_true h2
      have Hv : Hid ((if x < y then (-1 : Int) else if y < x then 1 else 0) = 1) := Lib.hid (by rw [if_neg h1, if_pos h2])
      rw [Hv.out]
      go_wp2_with (go_at_call 155; refine Calls.mono (isNaN_int64 _ _) ?_; rintro e w1 ⟨rfl, rfl⟩)
      go_ret
      exact ⟨rfl, rfl⟩
    · have T2 : decide (y < x) = false := decide_eq_false h2
      have Hv : Hid ((if x < y then (-1 : Int) else if y < x then 1 else 0) = 0) := Lib.hid (by rw [if_neg h1, if_neg h2])
      rw [Hv.out]
      go_wp2_with (go_at_call 155; refine Calls.mono (isNaN_int64 _ _) ?_; rintro e w1 ⟨rfl, rfl⟩)
      go_ret
      exact ⟨rfl, rfl⟩
end Go.Proofs.YtbddkmlfjghllaaGreatDoor

/- Contracts: the words of the laws over a code. -/
namespace Go.Proofs.YtbddkmlfjghllaaGreatDoor
set_option linter.unusedVariables false
set_option linter.unusedSimpArgs false
open Go.RowKit
attribute [local go_sem] cell_onto

theorem laws_big_no (cn : Nat) (A : Option Addr) (c : Nat) (w : World) (h : cn ≤ 4096) : Calls Tryz.prog 6 #[.slice A cn c] w (RetS (.bool false) w) := by
  have hh : ¬ (4096 : Int) < (cn : Int) := by omega
  go_enter Tryz.func6, Tryz.ntmps6
  go_wp2_with fail
  go_ret
  exact ⟨rfl, rfl⟩
theorem laws_big_yes (cn : Nat) (A : Option Addr) (c : Nat) (w : World) (h : ¬ cn ≤ 4096) : Calls Tryz.prog 6 #[.slice A cn c] w (RetS (.bool true) w) := by
  have hh : (4096 : Int) < (cn : Int) := by omega
  go_enter Tryz.func6, Tryz.ntmps6
  go_wp2_with fail
  go_ret
  exact ⟨rfl, rfl⟩
set_option maxHeartbeats 1000000 in
theorem laws_likeSpans9 (v v' : Value) (l : List Sp) (w : World) (h : Spans w 0 w.heap.size v l) (h' : Spans w 0 w.heap.size v' l) :
    Calls Tryz.prog 17 #[v, v'] w (RetX (.bool true) w) := by
  obtain ⟨A, c, rfl, hn, hc⟩ := h.len
  obtain ⟨A', c', rfl, _, hc'⟩ := h'.len
  have H := Lib.hid h
  have H' := Lib.hid h'
  clear h h'
  go_enter Tryz.func17, Tryz.ntmps17
  go_wp2_with fail
  go_loopg [5] l.length (fun k i wr => ∃ j : Nat, j + k = l.length ∧ i = .int .i64 j ∧ Ext w wr)
  case atStart => exact ⟨0, by omega, rfl, (by repeat (first | exact Ext.refl _ | assumption | refine Ext.alloc ?_ _ | refine Ext.drew ?_ | refine Ext.drewN ?_ _ | refine Ext.setCell ?_ (by first | (simp; done) | (simp; omega) | omega) _ | refine Ext.trans ?_ (by assumption)))⟩
  case round =>
    obtain ⟨j, hj, rfl, hx⟩ := hrel
    by_cases hlt : j < l.length
    · obtain ⟨b, off, rfl, _, hb, h1⟩ := (H.out.ext hx (Nat.le_refl _)).at_ hlt
      obtain ⟨b', off', rfl, _, hb', h1'⟩ := (H'.out.ext hx (Nat.le_refl _)).at_ hlt
      have hbr : b < wr.heap.size := Nat.lt_of_lt_of_le hb hx.size
      have hbr' : b' < wr.heap.size := Nat.lt_of_lt_of_le hb' hx.size
      go_wp2_with fail
      (refine wp_region_onto prog_mixed (by kernel_rfl) ?_; (repeat (go_big_quiet_step ((fail)))); refine onto_end ?_; intro w1 hx1)
      go_wp2_with fail
      go_roundg (l.length - (j + 1))
      case measure => omega
      case rel => exact ⟨j + 1, by omega, by go_num, (by repeat (first | exact Ext.refl _ | assumption | refine Ext.alloc ?_ _ | refine Ext.drew ?_ | refine Ext.drewN ?_ _ | refine Ext.setCell ?_ (by first | (simp; done) | (simp; omega) | omega) _ | refine Ext.trans ?_ (by assumption)))⟩
    · obtain rfl : j = l.length := by omega
      go_wp2_with fail
      go_ret
      exact ⟨rfl, (by repeat (first | exact Ext.refl _ | assumption | refine Ext.alloc ?_ _ | refine Ext.drew ?_ | refine Ext.drewN ?_ _ | refine Ext.setCell ?_ (by first | (simp; done) | (simp; omega) | omega) _ | refine Ext.trans ?_ (by assumption)))⟩
noncomputable def hdE (l : List Sp) (d : Int) : Int := bif B (SetOk l) then (bif B (DayOk d) then 0 else 2) else 1
noncomputable def hdV (l : List Sp) (d : Int) : Bool := bif B (SetOk l) then (bif B (DayOk d) then B (HasDay l d) else false) else false
theorem impl_HasDay (v : Value) (l : List Sp) (d : Int) (w : World) (h : Spans w 0 w.heap.size v l) : Calls Tryz.prog 19 #[v, .int .i64 d] w (RetX (.tuple #[.bool (hdV l d), .int .i64 (hdE l d)]) w) := by
  have H := Lib.hid h
  clear h
  go_enter Tryz.func19, Tryz.ntmps19
  go_wp2_with fail
  refine Calls.mono (impl_IsSet _ l _ (H.out.up (by repeat (first | exact Ext.refl _ | assumption | refine Ext.alloc ?_ _ | refine Ext.drew ?_ | refine Ext.drewN ?_ _ | refine Ext.setCell ?_ (by first | (simp; done) | (simp; omega) | omega) _ | refine Ext.trans ?_ (by assumption))))) ?_
  rintro e w1 ⟨rfl, hx1⟩
  by_cases h1 : SetOk l
  case neg =>
    rw [B_false h1]
    go_wp2_with fail
    refine bodyPost_ret (v := .tuple #[.bool (hdV l d), .int .i64 (hdE l d)]) (by simp [results, Tryz.results19, go_sem, hdV, hdE, B_false h1]) rfl ⟨rfl, (by repeat (first | exact Ext.refl _ | assumption | refine Ext.alloc ?_ _ | refine Ext.drew ?_ | refine Ext.drewN ?_ _ | refine Ext.setCell ?_ (by first | (simp; done) | (simp; omega) | omega) _ | refine Ext.trans ?_ (by assumption)))⟩
  rw [B_true h1]
  go_wp2_with fail
  refine Calls.mono (impl_isDay d _) ?_
  rintro e w2 ⟨rfl, rfl⟩
  by_cases h2 : DayOk d
  case neg =>
    rw [B_false h2]
    go_wp2_with fail
    refine bodyPost_ret (v := .tuple #[.bool (hdV l d), .int .i64 (hdE l d)]) (by simp [results, Tryz.results19, go_sem, hdV, hdE, B_true h1, B_false h2]) rfl ⟨rfl, (by repeat (first | exact Ext.refl _ | assumption | refine Ext.alloc ?_ _ | refine Ext.drew ?_ | refine Ext.drewN ?_ _ | refine Ext.setCell ?_ (by first | (simp; done) | (simp; omega) | omega) _ | refine Ext.trans ?_ (by assumption)))⟩
  rw [B_true h2]
  go_wp2_with fail
  refine Calls.mono (impl_hasDay _ l d _ (H.out.up (by repeat (first | exact Ext.refl _ | assumption | refine Ext.alloc ?_ _ | refine Ext.drew ?_ | refine Ext.drewN ?_ _ | refine Ext.setCell ?_ (by first | (simp; done) | (simp; omega) | omega) _ | refine Ext.trans ?_ (by assumption))))) ?_
  rintro e w3 ⟨rfl, hx3⟩
  go_wp2_with fail
  refine bodyPost_ret (v := .tuple #[.bool (hdV l d), .int .i64 (hdE l d)]) (by simp [results, Tryz.results19, go_sem, hdV, hdE, B_true h1, B_true h2]) rfl ⟨rfl, (by repeat (first | exact Ext.refl _ | assumption | refine Ext.alloc ?_ _ | refine Ext.drew ?_ | refine Ext.drewN ?_ _ | refine Ext.setCell ?_ (by first | (simp; done) | (simp; omega) | omega) _ | refine Ext.trans ?_ (by assumption)))⟩
end Go.Proofs.YtbddkmlfjghllaaGreatDoor
