/- Networks in which statements are given up: plain data, and such a network under way in memory. No program in sight. -/
import Derived.Test.YtfmnkojjkjkdeaaDoorS
import Derived.Test.YtfmnkojjkjkdeaaDoorF
namespace Go.Proofs.YtfmnkojjkjkdeaaDoor
set_option linter.unusedVariables false
set_option linter.unusedSimpArgs false
open Go.RowKit

/-! ### the plain data -/
def HasI (l : List Int) (x : Int) : Prop := ∃ i, i < l.length ∧ inAt l i = x
def StmOk (n : Net) (l : List Int) : Prop := ∀ i, i < l.length → (0 ≤ inAt l i ∧ inAt l i ≤ (n.sets.length : Int) + n.links.length - 1) ∧ (0 < i → inAt l (i - 1) < inAt l i)
noncomputable def stmE (n : Net) (l : List Int) : Int := bif B (NetOk n) then (bif B (StmOk n l) then 0 else 2) else 1
theorem stm_net {n : Net} {l : List Int} (h : ¬ NetOk n) : stmE n l = 1 := by unfold stmE; rw [B_false h]; rfl
theorem stm_bad {n : Net} {l : List Int} (h : NetOk n) (h2 : ¬ StmOk n l) : stmE n l = 2 := by unfold stmE; rw [B_true h, B_false h2]; rfl
theorem stm_ok {n : Net} {l : List Int} (h : NetOk n) (h2 : StmOk n l) : stmE n l = 0 := by unfold stmE; rw [B_true h, B_true h2]; rfl
def allDays : List Sp := [⟨0, 730499⟩]
noncomputable def gvS (is : Nat → Prop) (l : List (List Sp)) : Nat → List (List Sp)
  | 0 => []
  | j + 1 => gvS is l j ++ [bif B (is j) then allDays else setAt l j]
noncomputable def gvL (is : Nat → Prop) (N : Nat) (l : List Lk) : Nat → List Lk
  | 0 => []
  | j + 1 => bif B (is (N + j)) then gvL is N l j else gvL is N l j ++ [lkAt l j]
noncomputable def giveN (is : Nat → Prop) (n : Net) : Net := ⟨gvS is n.sets n.sets.length, gvL is n.sets.length n.links n.links.length⟩
theorem gvS_len (is : Nat → Prop) (l : List (List Sp)) : ∀ j, (gvS is l j).length = j
  | 0 => rfl
  | j + 1 => by unfold gvS; rw [List.length_append, gvS_len is l j]; rfl
theorem gvS_yes {is : Nat → Prop} {l : List (List Sp)} {j : Nat} (h : is j) : gvS is l (j + 1) = gvS is l j ++ [allDays] := by show gvS is l j ++ [bif B (is j) then _ else _] = _; rw [B_true h]; rfl
theorem gvS_no {is : Nat → Prop} {l : List (List Sp)} {j : Nat} (h : ¬ is j) : gvS is l (j + 1) = gvS is l j ++ [setAt l j] := by show gvS is l j ++ [bif B (is j) then _ else _] = _; rw [B_false h]; rfl
theorem gvL_yes {is : Nat → Prop} {N : Nat} {l : List Lk} {j : Nat} (h : is (N + j)) : gvL is N l (j + 1) = gvL is N l j := by show (bif B (is (N + j)) then _ else _) = _; rw [B_true h]; rfl
theorem gvL_no {is : Nat → Prop} {N : Nat} {l : List Lk} {j : Nat} (h : ¬ is (N + j)) : gvL is N l (j + 1) = gvL is N l j ++ [lkAt l j] := by show (bif B (is (N + j)) then _ else _) = _; rw [B_false h]; rfl
theorem gvL_len (is : Nat → Prop) (N : Nat) (l : List Lk) : ∀ j, (gvL is N l j).length ≤ j
  | 0 => Nat.le_refl _
  | j + 1 => by
    have ih := gvL_len is N l j
    by_cases h : is (N + j)
    · rw [gvL_yes h]; omega
    · rw [gvL_no h, List.length_append]; simp; omega
theorem gvS_at (is : Nat → Prop) (l : List (List Sp)) : ∀ j i, i < j → setAt (gvS is l j) i = bif B (is i) then allDays else setAt l i
  | 0, i, h => absurd h (by omega)
  | j + 1, i, h => by
    have hl := gvS_len is l j
    show setAt (gvS is l j ++ [bif B (is j) then allDays else setAt l j]) i = _
    rw [setAt_push _ _ (by omega), hl]
    by_cases e : i = j
    · rw [if_pos e, e]
    · rw [if_neg e]; exact gvS_at is l j i (by omega)
theorem allDays_ok : SetOk allDays := ⟨by simp [allDays], fun i hi => by
  have : i = 0 := by simp [allDays] at hi; omega
  subst this
  exact ⟨⟨⟨by decide, by decide⟩, ⟨by decide, by decide⟩, by decide⟩, fun h => absurd h (by omega)⟩⟩
theorem gvL_mem (is : Nat → Prop) (N : Nat) (l : List Lk) : ∀ j i, i < (gvL is N l j).length → ∃ i', i' < j ∧ lkAt (gvL is N l j) i = lkAt l i'
  | 0, i, h => absurd h (by simp [gvL])
  | j + 1, i, h => by
    by_cases hh : is (N + j)
    · rw [gvL_yes hh] at h ⊢
      obtain ⟨i', h1, h2⟩ := gvL_mem is N l j i h
      exact ⟨i', by omega, h2⟩
    · rw [gvL_no hh] at h ⊢
      rw [List.length_append] at h
      rw [lkAt_push _ _ h]
      by_cases e : i = (gvL is N l j).length
      · rw [if_pos e]; exact ⟨j, by omega, rfl⟩
      · rw [if_neg e]
        have h' : i < (gvL is N l j).length := by simp at h; omega
        obtain ⟨i', h1, h2⟩ := gvL_mem is N l j i h'
        exact ⟨i', by omega, h2⟩
theorem giveN_ok {is : Nat → Prop} {n : Net} (h : NetOk n) : NetOk (giveN is n) := by
  obtain ⟨h1, h2, h3, h4⟩ := h
  have hl := gvS_len is n.sets n.sets.length
  refine ⟨by show (gvS _ _ _).length ≤ 8; omega, Nat.le_trans (gvL_len _ _ _ _) h2, fun i hi => ?_, fun i hi => ?_⟩
  · have hi' : i < n.sets.length := by have : i < (gvS is n.sets n.sets.length).length := hi; omega
    show SetOk (setAt (gvS _ _ _) i)
    rw [gvS_at is n.sets _ i hi']
    cases B (is i)
    · exact h3 i hi'
    · exact allDays_ok
  · show LkOk (lkAt (gvL _ _ _ _) i) (gvS is n.sets n.sets.length).length
    obtain ⟨i', hi', e⟩ := gvL_mem is n.sets.length n.links n.links.length i hi
    rw [e, hl]
    exact h4 i' hi'

/-! ### under way -/
theorem Own.of_dst {w : World} {base n sz : Nat} {e : TypeId} {v : Value} {f : Nat → Value} (h : Dst w base e sz v n (cellsOf (n * sz) f)) :
    ∃ g, (0 < n → v.ownBlock = some g ∧ base ≤ g) ∧ Own w g sz v n f := by
  rcases h with h | ⟨h1, _, ⟨A, e⟩, _⟩
  · exact Own.of_owned h
  · exact ⟨0, fun h => absurd h (by omega), by rw [h1]; exact ⟨Nat.zero_le _, A, 0, e, Nat.le_refl _, fun h => absurd h (by omega)⟩⟩
def GvSt (TL : Nat) (w : World) (go b1 : Nat) (s0 k0 : Value) (sets : List (List Sp)) (links : List Lk) (sv kv : Value) (wr : World) : Prop :=
  Ext w wr ∧ Boxed wr w.heap.size [s0, k0] ∧ Boxed wr (w.heap.size + 1) [.slice none 0 0, .slice none 0 0] ∧ Boxed wr go [sv, kv] ∧ w.heap.size + 1 < go ∧ go < b1 ∧ b1 ≤ wr.heap.size ∧
    OwnSets wr (go + 1) b1 sv sets ∧ Dst wr b1 TL 4 kv links.length (cellsOf (links.length * 4) (linkCell links))
theorem Dst.ext {w w' : World} {b : Nat} {e : TypeId} {sz n : Nat} {v : Value} {xs : List Value} (h : Dst w b e sz v n xs) (hx : Ext w w') : Dst w' b e sz v n xs :=
  h.off (S := fun _ => False) (Off.of_ext hx) (fun _ _ h => h)
theorem GvSt.ext {TL : Nat} {w wr w2 : World} {go b1 : Nat} {s0 k0 sv kv : Value} {sets : List (List Sp)} {links : List Lk} (h : GvSt TL w go b1 s0 k0 sets links sv kv wr) (hx : Ext wr w2) : GvSt TL w go b1 s0 k0 sets links sv kv w2 := by
  obtain ⟨h1, h2, h3, h4, h5, h6, h7, h8, h9⟩ := h
  exact ⟨h1.trans hx, h2.ext hx, h3.ext hx, h4.ext hx, h5, h6, Nat.le_trans h7 hx.size, h8.ext hx, h9.ext hx⟩
theorem GvSt.push {TL : Nat} {w wr w2 w3 : World} {go b1 : Nat} {s0 k0 sv kv k3 : Value} {sets : List (List Sp)} {links : List Lk} {l : Lk} (h : GvSt TL w go b1 s0 k0 sets links sv kv wr) (hx : Ext wr w2)
    (hp : Put b1 w2 kv w3 k3) (h4 : w3.ownsRow b1 TL 4 k3 (links.length + 1) (cellsOf (links.length * 4) (linkCell links) ++ cellsOf (1 * 4) (linkCell [l]))) :
    GvSt TL w go b1 s0 k0 sets (links ++ [l]) sv k3 (w3.setCell ⟨go, 1, none⟩ k3) := by
  obtain ⟨a1, a2, a3, a4, a5, a6, a7, a8, a9⟩ := h.ext hx
  have no : ∀ {k : Nat}, k < b1 → ¬ (b1 ≤ k ∧ k < w2.heap.size ∧ kv.ownBlock = some k) := fun hk hh => by have := hh.1; omega
  have hs : Off (fun k => k = go) w3 (w3.setCell ⟨go, 1, none⟩ k3) := Off.setCell (S := fun k => k = go) (p := ⟨go, 1, none⟩) (Off.refl _ _) (.inl rfl) _
  have hz := hp.size
  have hz2 := hs.size
  refine ⟨(hp.ext a1 (by omega)).off hs (fun k hk hh => by omega), (a2.off hp.1 (no (by omega))).off hs (fun hh => by omega), (a3.off hp.1 (no (by omega))).off hs (fun hh => by omega),
    (a4.off hp.1 (no (by omega))).set 1 k3 (by simp), a5, a6, by omega, (a8.off hp.1 (fun k h1 h2 => no h2)).off hs (fun k h1 h2 hh => by omega), .inl ?_⟩
  rw [← linkCells_push]
  refine ownsRow_off ?_ hs (fun g hg hh => by have := (h4.lt g hg).1; omega)
  simpa using h4
theorem GvSt.done {TL : Nat} {w wr : World} {go b1 : Nat} {s0 k0 sv kv : Value} {sets : List (List Sp)} {links : List Lk} (h : GvSt TL w go b1 s0 k0 sets links sv kv wr) :
    NewNet ⟨sets, links⟩ w (.returned (.agg #[sv, kv])) ((wr.setCell ⟨w.heap.size + 1, 0, none⟩ sv).setCell ⟨w.heap.size + 1, 1, none⟩ kv) := by
  obtain ⟨a1, a2, a3, a4, a5, a6, a7, a8, a9⟩ := h
  have hs : Off (fun k => k = w.heap.size + 1) wr ((wr.setCell ⟨w.heap.size + 1, 0, none⟩ sv).setCell ⟨w.heap.size + 1, 1, none⟩ kv) :=
    Off.setCell (S := fun k => k = w.heap.size + 1) (p := ⟨w.heap.size + 1, 1, none⟩) (Off.setCell (S := fun k => k = w.heap.size + 1) (p := ⟨w.heap.size + 1, 0, none⟩) (Off.refl _ _) (.inl rfl) _) (.inl rfl) _
  have hz := hs.size
  obtain ⟨gk, h1, h2⟩ := Own.of_dst a9
  refine ⟨sv, kv, rfl, a1.off hs (fun k hk hh => by omega), sv, kv, go + 1, b1, gk, rfl, by omega, by omega, a8.off hs (fun k h1 h2 hh => by omega), h2.off hs (fun hn hh => by have := (h1 hn).2; omega), fun hn => ?_⟩
  have h3 := (h1 hn).2
  have h4 := h2.lt hn
  exact ⟨by omega, by omega, by omega⟩
theorem GvSt.start {TL TS : Nat} {w wr : World} {go : Nat} {s0 k0 kv sv : Value} {sets : List (List Sp)} (h : OwnSt TL TS w go s0 k0 kv noNet sets sv wr) (hk : ∃ A, kv = .slice A 0 0) :
    GvSt TL w go wr.heap.size s0 k0 sets [] sv kv wr := by
  obtain ⟨hx, h1, h2, hb, h3, h5, _, h4⟩ := h
  refine ⟨hx, h1, h2, hb, h3, hb.1, Nat.le_refl _, h4.sets, .inr ⟨rfl, by simp [cellsOf], hk, fun g hg => (h5.lt g hg).2⟩⟩
end Go.Proofs.YtfmnkojjkjkdeaaDoor
