/- Texts merged (a claim holds at most sixty files): Dp, Sg. -/
import Derived.Test.YtfmnkojjkjkdeaaGreatDoorQ3S
import Derived.Test.YtfmnkojjkjkdeaaGreatDoorQ3E
/- Memory: sets under way whose blocks are told by a predicate; networks that draws return. No program in sight. -/
namespace Go.Proofs.YtfmnkojjkjkdeaaGreatDoor
set_option linter.unusedVariables false
set_option linter.unusedSimpArgs false
open Go.RowKit

/-- what may be appended to: a row of blocks of P, or what is empty and has no room -/
def DstP (w : World) (b : Nat) (e : TypeId) (sz : Nat) (v : Value) (n : Nat) (xs : List Value) (P : Nat → Prop) : Prop :=
  (w.ownsRow b e sz v n xs ∧ ∀ g, v.ownBlock = some g → P g) ∨ (n = 0 ∧ xs = [] ∧ (∃ A, v = .slice A 0 0) ∧ ∀ g, v.ownBlock = some g → g < b ∧ g < w.heap.size)
section
variable {w w' : World} {b : Nat} {e : TypeId} {sz n : Nat} {v : Value} {xs : List Value} {P P' S : Nat → Prop}
theorem DstP.dst (h : DstP w b e sz v n xs P) : Dst w b e sz v n xs := h.elim (fun h => .inl h.1) (fun h => .inr ⟨h.1, h.2.1, h.2.2.1, fun g hg => (h.2.2.2 g hg).2⟩)
theorem DstP.off (h : DstP w b e sz v n xs P) (hx : Off S w w') (hs : ∀ k, P k → ¬ S k) : DstP w' b e sz v n xs P := by
  rcases h with ⟨h1, h2⟩ | ⟨h1, h2, h3, h4⟩
  · exact .inl ⟨ownsRow_off h1 hx (fun g hg => hs g (h2 g hg)), h2⟩
  · exact .inr ⟨h1, h2, h3, fun g hg => ⟨(h4 g hg).1, Nat.lt_of_lt_of_le (h4 g hg).2 hx.size⟩⟩
theorem DstP.ext (h : DstP w b e sz v n xs P) (hx : Ext w w') : DstP w' b e sz v n xs P := h.off (S := fun _ => False) (Off.of_ext hx) (fun _ _ h => h)
theorem DstP.mono (h : DstP w b e sz v n xs P) (hp : ∀ k, P k → P' k) : DstP w b e sz v n xs P' := h.elim (fun h => .inl ⟨h.1, fun g hg => hp g (h.2 g hg)⟩) .inr
theorem DstP.len (h : DstP w b e sz v n xs P) : ∃ A c, v = .slice A n c := h.dst.len
theorem DstP.row {f : Nat → Value} (h : DstP w b e sz v n (cellsOf (n * sz) f) P) : Row w b w.heap.size sz v n f := by
  rcases h with ⟨h1, _⟩ | ⟨h1, _, ⟨A, e⟩, _⟩
  · obtain ⟨g, a, ho⟩ := Own.of_owned h1
    exact ho.row (fun h0 => ⟨(a h0).2, ho.lt h0⟩)
  · subst h1 e
    exact ⟨Nat.zero_le _, A, 0, rfl, Nat.le_refl _, fun h0 => absurd h0 (by omega)⟩
end

def SetsP (T : Nat) (w : World) (lo : Nat) (P : Nat → Prop) (v : Value) (l : List (List Sp)) (f : Nat → Value) : Prop :=
  DstP w lo T 1 v l.length (cellsOf (l.length * 1) f) P ∧ ∃ (g : Nat → Nat),
    (∀ i, i < l.length → Own w (g i) 2 (f i) (setAt l i).length (spanCell (setAt l i)) ∧ (0 < (setAt l i).length → P (g i) ∧ v.ownBlock ≠ some (g i))) ∧
    (∀ i j, i < l.length → j < l.length → i ≠ j → 0 < (setAt l i).length → 0 < (setAt l j).length → g i ≠ g j)
section
variable {T : Nat} {w w2 w3 : World} {lo gu : Nat} {P P' S : Nat → Prop} {v v' u : Value} {l : List (List Sp)} {s : List Sp} {f : Nat → Value}
theorem SetsP.of_empty (h : DstP w lo T 1 v 0 [] P) : ∃ f, SetsP T w lo P v [] f :=
  ⟨fun _ => .bool true, by simpa [cellsOf] using h, fun _ => 0, fun i hi => absurd hi (by simp), fun i j hi => absurd hi (by simp)⟩
theorem SetsP.off (h : SetsP T w lo P v l f) (hx : Off S w w2) (hs : ∀ k, P k → ¬ S k) : SetsP T w2 lo P v l f := by
  obtain ⟨h1, g, h2, h3⟩ := h
  exact ⟨h1.off hx hs, g, fun i hi => ⟨(h2 i hi).1.off hx (fun h0 => hs _ ((h2 i hi).2 h0).1), (h2 i hi).2⟩, h3⟩
theorem SetsP.ext (h : SetsP T w lo P v l f) (hx : Ext w w2) : SetsP T w2 lo P v l f := h.off (S := fun _ => False) (Off.of_ext hx) (fun _ _ h => h)
theorem SetsP.mono (h : SetsP T w lo P v l f) (hp : ∀ k, P k → P' k) : SetsP T w lo P' v l f := by
  obtain ⟨h1, g, h2, h3⟩ := h
  exact ⟨h1.mono hp, g, fun i hi => ⟨(h2 i hi).1, fun h0 => ⟨hp _ ((h2 i hi).2 h0).1, ((h2 i hi).2 h0).2⟩⟩, h3⟩
/-- all its blocks are there by now -/
theorem SetsP.now (h : SetsP T w lo P v l f) : SetsP T w lo (fun k => P k ∧ k < w.heap.size) v l f := by
  obtain ⟨h1, g, h2, h3⟩ := h
  refine ⟨?_, g, fun i hi => ⟨(h2 i hi).1, fun h0 => ⟨⟨((h2 i hi).2 h0).1, (h2 i hi).1.lt h0⟩, ((h2 i hi).2 h0).2⟩⟩, h3⟩
  rcases h1 with ⟨a, b⟩ | h1
  · exact .inl ⟨a, fun g hg => ⟨b g hg, (a.lt g hg).2⟩⟩
  · exact .inr h1
theorem SetsP.pushS (h : SetsP T w lo P v l f) (hx : Off S w w2) (hsS : ∀ k, P k → ¬ S k) (hgu : 0 < s.length → w.heap.size ≤ gu) (hlo : lo ≤ w.heap.size) (hP : ∀ k, w.heap.size ≤ k → P k)
    (hu : Own w2 gu 2 u s.length (spanCell s)) (hp : Put lo w2 v w3 v') (h4 : w3.ownsRow lo T 1 v' (l.length + 1) (cellsOf (l.length * 1) f ++ cellsOf (1 * 1) (fun _ => u))) : ∃ f', SetsP T w3 lo P v' (l ++ [s]) f' := by
  obtain ⟨h1, g, h2, h3⟩ := h
  have hlt := h1.dst.lt
  have hxs := hx.size
  have hin : ∀ g, v.ownBlock = some g → lo ≤ g → P g := fun g hg hl => by
    rcases h1 with ⟨a, b⟩ | ⟨_, _, _, c⟩
    · exact b g hg
    · have := (c g hg).1; omega
  refine ⟨fun i => if i = l.length then u else f i, ?_, fun i => if i = l.length then gu else g i, ?_, ?_⟩
  · rw [List.length_append]
    have e : cellsOf (l.length * 1) f ++ cellsOf (1 * 1) (fun _ => u) = cellsOf ((l.length + 1) * 1) (fun i => if i = l.length then u else f i) := by
      rw [cellsOf_append]
      have : l.length * 1 + 1 * 1 = (l.length + 1) * 1 := by omega
      rw [this]
      refine cellsOf_congr (fun i hi => ?_)
      by_cases e : i = l.length
      · rw [if_neg (by omega), if_pos e]
      · rw [if_pos (by omega), if_neg e]
    rw [e] at h4
    refine .inl ⟨h4, fun k hk => ?_⟩
    rcases hp.2 k hk with hh | hh
    · exact hin k hh.2.2 hh.1
    · exact hP k (by omega)
  · intro i hi
    rw [List.length_append] at hi
    have hi' : i < l.length + 1 := hi
    rw [setAt_push l s hi']
    show Own w3 (if i = l.length then gu else g i) 2 (if i = l.length then u else f i) _ _ ∧ _
    by_cases e : i = l.length
    · simp only [if_pos e]
      refine ⟨hu.off hp.1 (fun h0 hh => ?_), fun h0 => ⟨hP _ (hgu h0), fun hh => ?_⟩⟩
      · have := hlt gu hh.2.2
        have := hgu h0
        omega
      · rcases hp.2 gu hh with hh | hh
        · have := hlt gu hh.2.2
          have := hgu h0
          omega
        · have := hu.lt h0
          omega
    · simp only [if_neg e]
      have h5 := h2 i (by omega)
      refine ⟨(h5.1.off hx (fun h0 => hsS _ (h5.2 h0).1)).off hp.1 (fun h0 hh => (h5.2 h0).2 hh.2.2), fun h0 => ⟨(h5.2 h0).1, fun hh => ?_⟩⟩
      rcases hp.2 (g i) hh with hh | hh
      · exact (h5.2 h0).2 hh.2.2
      · have h6 := h5.1.lt h0
        omega
  · intro i j hi hj hne
    rw [List.length_append] at hi hj
    have hi' : i < l.length + 1 := hi
    have hj' : j < l.length + 1 := hj
    rw [setAt_push l s hi', setAt_push l s hj']
    show _ → _ → (if i = l.length then gu else g i) ≠ (if j = l.length then gu else g j)
    by_cases e : i = l.length
    · have e2 : ¬ j = l.length := by omega
      simp only [if_pos e, if_neg e2]
      intro h0 h0' hh
      have h6 := (h2 j (by omega)).1.lt h0'
      have h7 := hgu h0
      omega
    · by_cases e2 : j = l.length
      · simp only [if_neg e, if_pos e2]
        intro h0 h0' hh
        have h6 := (h2 i (by omega)).1.lt h0
        have h7 := hgu h0'
        omega
      · simp only [if_neg e, if_neg e2]
        exact h3 i j (by omega) (by omega) hne
theorem SetsP.push (h : SetsP T w lo P v l f) (hx : Ext w w2) (hgu : 0 < s.length → w.heap.size ≤ gu) (hlo : lo ≤ w.heap.size) (hP : ∀ k, w.heap.size ≤ k → P k)
    (hu : Own w2 gu 2 u s.length (spanCell s)) (hp : Put lo w2 v w3 v') (h4 : w3.ownsRow lo T 1 v' (l.length + 1) (cellsOf (l.length * 1) f ++ cellsOf (1 * 1) (fun _ => u))) : ∃ f', SetsP T w3 lo P v' (l ++ [s]) f' :=
  h.pushS (S := fun _ => False) (Off.of_ext hx) (fun _ _ hh => hh) hgu hlo hP hu hp h4
/-- the sets as they are read -/
theorem SetsP.sets {lo' : Nat} (h : SetsP T w lo P v l f) (hl : lo' ≤ lo) (hP : ∀ k, P k → lo' ≤ k) : Sets w lo' w.heap.size v l := by
  obtain ⟨h1, g, h2, h3⟩ := h
  exact ⟨f, (h1.row).mono hl (Nat.le_refl _), fun i hi => (h2 i hi).1.row (fun h0 => ⟨hP _ ((h2 i hi).2 h0).1, (h2 i hi).1.lt h0⟩)⟩
end

/-! ### networks that draws return -/
def Few (n : Net) : Prop := n.sets.length ≤ 8 ∧ n.links.length ≤ 8 ∧ ∀ i, i < n.sets.length → (setAt n.sets i).length ≤ 400
theorem Few.small {n : Net} (h : Few n) : Small n := ⟨by have := h.1; omega, by have := h.2.1; omega, fun i hi => by have := h.2.2 i hi; omega⟩
/-- a network that lies behind the source -/
def DrNetR (b0 g : Nat) (cv : Value) (cn : Nat) (w : World) (e : Ending) (w' : World) : Prop :=
  ∃ (s k : Value) (n : Net), e = .returned (.agg #[s, k]) ∧ Drw b0 g cv cn w w' ∧ Few n ∧ NetAt w' (g + 1) w'.heap.size s k n
/-- .. whose links may still grow -/
def DrNet (b0 g : Nat) (cv : Value) (cn TL : Nat) (w : World) (e : Ending) (w' : World) : Prop :=
  ∃ (s k : Value) (n : Net), e = .returned (.agg #[s, k]) ∧ Drw b0 g cv cn w w' ∧ (n.sets.length ≤ 6 ∧ n.links.length ≤ 6 ∧ ∀ i, i < n.sets.length → (setAt n.sets i).length ≤ 400) ∧
    ∃ (S : Nat → Prop) (hd : Nat), w.heap.size ≤ hd ∧ hd ≤ w'.heap.size ∧ DstP w' hd TL 4 k n.links.length (cellsOf (n.links.length * 4) (linkCell n.links)) S ∧ (∀ k, S k → hd ≤ k ∧ k < w'.heap.size) ∧
      ∀ w'', Off (fun x => x = g ∨ S x) w' w'' → Sets w'' w.heap.size w''.heap.size s n.sets
theorem DrNet.now {b0 g cn TL : Nat} {cv : Value} {w w' : World} {e : Ending} (hg : g < w.heap.size) (h : DrNet b0 g cv cn TL w e w') : DrNetR b0 g cv cn w e w' := by
  obtain ⟨s, k, n, he, hd, ⟨f1, f2, f3⟩, S, hi, h1, h2, h3, h4, h5⟩ := h
  exact ⟨s, k, n, he, hd, ⟨by omega, by omega, f3⟩, (h5 _ (Off.refl _ _)).mono (by omega) (Nat.le_refl _), (h3.row).mono (by omega) (Nat.le_refl _)⟩
/-- a network that is new -/
def DrNetQ (b0 g : Nat) (cv : Value) (cn : Nat) (w : World) (e : Ending) (w' : World) : Prop :=
  ∃ (s k : Value) (n : Net), e = .returned (.agg #[s, k]) ∧ Drw b0 g cv cn w w' ∧ Few n ∧ NetAt w' w.heap.size w'.heap.size s k n
theorem DrNet.fresh {b0 g cn TL : Nat} {cv : Value} {w w' : World} {e : Ending} (h : DrNet b0 g cv cn TL w e w') : DrNetQ b0 g cv cn w e w' := by
  obtain ⟨s, k, n, he, hd, ⟨f1, f2, f3⟩, S, hi, h1, h2, h3, h4, h5⟩ := h
  exact ⟨s, k, n, he, hd, ⟨by omega, by omega, f3⟩, h5 _ (Off.refl _ _), (h3.row).mono (by omega) (Nat.le_refl _)⟩

/-! ### the network that is drawn, while it grows -/
structure DnA (b0 g cn : Nat) (cv : Value) (TS : Nat) (w : World) (gR gN : Nat) (kv sv : Value) (l : List (List Sp)) (f : Nat → Value) (wr : World) : Prop where
  drw : Drw b0 g cv cn w wr
  res : Boxed wr gR [.slice none 0 0, .slice none 0 0]
  box : Boxed wr gN [sv, kv]
  sets : SetsP TS wr (gN + 1) (fun k => gN + 1 ≤ k) sv l f
  few : ∀ i, i < l.length → (setAt l i).length ≤ 400
theorem few_push {l : List (List Sp)} {s : List Sp} (h : ∀ i, i < l.length → (setAt l i).length ≤ 400) (hs : s.length ≤ 400) : ∀ i, i < (l ++ [s]).length → (setAt (l ++ [s]) i).length ≤ 400 := fun i hi => by
  have hi' : i < l.length + 1 := by simpa using hi
  rw [setAt_push l s hi']
  by_cases e : i = l.length
  · rw [if_pos e]; exact hs
  · rw [if_neg e]; exact h i (by omega)
section
variable {b0 g cn TS TE TL bb gR gN : Nat} {cv kv sv u v4 : Value} {l : List (List Sp)} {s : List Sp} {f : Nat → Value} {w wr w2 w3 w4 : World}
theorem DnA.push (h : DnA b0 g cn cv TS w gR gN kv sv l f wr) (hg : g < w.heap.size) (hR : w.heap.size ≤ gR) (hRN : gR < gN) (hd : Drw b0 g cv cn wr w2) (hx : Ext w2 w3) (hu : w3.ownsRow bb TE 2 u s.length (cellsOf (s.length * 2) (spanCell s))) (hb : w2.heap.size ≤ bb) (hs : s.length ≤ 400)
    (hp : Put (gN + 1) w3 sv w4 v4) (h4 : w4.ownsRow (gN + 1) TS 1 v4 (l.length + 1) (cellsOf (l.length * 1) f ++ cellsOf (1 * 1) (fun _ => u))) : ∃ f', DnA b0 g cn cv TS w gR gN kv v4 (l ++ [s]) f' (w4.setCell ⟨gN, 0, none⟩ v4) := by
  have hbz := h.box.1
  have hdz := hd.size
  obtain ⟨gu, hgu, hou⟩ := Own.of_owned hu
  obtain ⟨f', h5⟩ := (h.sets.off hd.off (fun k hk hh => by have e : k = g := hh; omega)).push hx (fun h0 => by have := (hgu h0).2; omega) (by omega) (fun k hk => by omega) hou hp h4
  have no : ∀ {k : Nat}, k ≤ gN → ¬ (gN + 1 ≤ k ∧ k < w3.heap.size ∧ sv.ownBlock = some k) := fun hk hh => by have := hh.1; omega
  refine ⟨f', (((h.drw.trans hd).ext hx).put hg hp (by omega)).setCell (by show _ ≤ gN; omega) (by show _ < gN; omega) _, ?_, ?_, ?_, few_push h.few hs⟩
  · exact (((h.res.drw hd (by omega)).ext hx).off hp.1 (no (by omega))).setOther (by show _ ≠ gN; omega) _
  · exact (((h.box.drw hd (by omega)).ext hx).off hp.1 (no (Nat.le_refl _))).set 0 v4 (by simp)
  · exact h5.off (S := One gN) (Off.setCell (S := One gN) (p := ⟨gN, 0, none⟩) (Off.refl _ _) (.inl rfl) _) (fun k hk hh => by have e : k = gN := hh; omega)
end
/-- .. with its links -/
structure DnB (b0 g cn : Nat) (cv : Value) (TS TL : Nat) (w : World) (gR gN hi hd : Nat) (kv sv dv : Value) (l : List (List Sp)) (f : Nat → Value) (ds : List Int) (m : List Lk) (wr : World) : Prop where
  drw : Drw b0 g cv cn w wr
  res : Boxed wr gR [.slice none 0 0, .slice none 0 0]
  box : Boxed wr gN [sv, kv]
  sets : SetsP TS wr (gN + 1) (fun k => gN + 1 ≤ k ∧ k < hi) sv l f
  few : ∀ i, i < l.length → (setAt l i).length ≤ 400
  lks : DstP wr hd TL 4 kv m.length (cellsOf (m.length * 4) (linkCell m)) (fun k => hd ≤ k)
  days : Row wr hi hd 1 dv l.length (intCell ds)
  h1 : gN < hi
  h2 : hi ≤ hd
  h3 : hd ≤ wr.heap.size
section
variable {b0 g cn TS TE TL gR gN hi hd : Nat} {cv kv sv dv u v4 : Value} {l : List (List Sp)} {s : List Sp} {f : Nat → Value} {ds : List Int} {m : List Lk} {x : Lk} {w wr w2 w3 w4 : World}
theorem DnB.step (h : DnB b0 g cn cv TS TL w gR gN hi hd kv sv dv l f ds m wr) (hg : g < w.heap.size) (hR : w.heap.size ≤ gR) (hRN : gR < gN) (hx : Drw b0 g cv cn wr w2) : DnB b0 g cn cv TS TL w gR gN hi hd kv sv dv l f ds m w2 := by
  have a1 := h.h1
  have a2 := h.h2
  have a3 := h.h3
  exact ⟨h.drw.trans hx, h.res.drw hx (by omega), h.box.drw hx (by omega), h.sets.off hx.off (fun k hk hh => by have e : k = g := hh; omega), h.few, h.lks.off hx.off (fun k hk hh => by have e : k = g := hh; omega),
    h.days.off hx.off (fun k hk _ hh => by have e : k = g := hh; omega) (by omega), a1, a2, Nat.le_trans a3 hx.size⟩
theorem DnB.push (h : DnB b0 g cn cv TS TL w gR gN hi hd kv sv dv l f ds m wr) (hg : g < w.heap.size) (hR : w.heap.size ≤ gR) (hRN : gR < gN) (hx : Ext wr w3)
    (hp : Put hd w3 kv w4 v4) (h4 : w4.ownsRow hd TL 4 v4 (m.length + 1) (cellsOf (m.length * 4) (linkCell m) ++ cellsOf (1 * 4) (linkCell [x]))) :
    DnB b0 g cn cv TS TL w gR gN hi hd v4 sv dv l f ds (m ++ [x]) (w4.setCell ⟨gN, 1, none⟩ v4) := by
  have a1 := h.h1
  have a2 := h.h2
  have a3 := h.h3
  have hz := hx.size
  have hpz := hp.1.size
  have hz2 : (w4.setCell ⟨gN, 1, none⟩ v4).heap.size = w4.heap.size := by simp [World.setCell]
  have hS : Off (fun k => k = gN ∨ hd ≤ k) w3 (w4.setCell ⟨gN, 1, none⟩ v4) := (hp.1.mono (fun k hk => .inr hk.1)).setCell (p := ⟨gN, 1, none⟩) (.inl (.inl rfl)) _
  have no : ¬ (hd ≤ gN ∧ gN < w3.heap.size ∧ kv.ownBlock = some gN) := fun hh => by have := hh.1; omega
  refine ⟨((h.drw.ext hx).put hg hp (by omega)).setCell (by show _ ≤ gN; omega) (by show _ < gN; omega) _, (h.res.ext hx).off hS (fun hh => by omega), ?_, (h.sets.ext hx).off hS (fun k hk hh => by omega), h.few, ?_, (h.days.ext hx (by omega)).off hS (fun k h1 h2 hh => by omega) (by omega), a1, a2, by omega⟩
  · exact ((h.box.ext hx).off hp.1 no).set 1 v4 (by simp)
  · rw [linkCells_push] at h4
    refine .inl ⟨?_, fun k hk => ?_⟩
    · have h5 : w4.ownsRow hd TL 4 v4 (m ++ [x]).length (cellsOf ((m ++ [x]).length * 4) (linkCell (m ++ [x]))) := by
        rw [List.length_append] at h4 ⊢
        exact h4
      exact ownsRow_off h5 (S := One gN) (Off.setCell (S := One gN) (p := ⟨gN, 1, none⟩) (Off.refl _ _) (.inl rfl) _) (fun k hk hh => by have e : k = gN := hh; have := (h4.lt k hk).1; omega)
    · exact (h4.lt k hk).1
/-- the network's end -/
structure DnF (b0 g cn : Nat) (cv : Value) (TL : Nat) (w : World) (gR gN : Nat) (kv sv : Value) (l : List (List Sp)) (m : List Lk) (wr : World) : Prop where
  drw : Drw b0 g cv cn w wr
  res : Boxed wr gR [.slice none 0 0, .slice none 0 0]
  box : Boxed wr gN [sv, kv]
  few : ∀ i, i < l.length → (setAt l i).length ≤ 400
  ends : ∃ (S : Nat → Prop) (hd : Nat), gN < hd ∧ hd ≤ wr.heap.size ∧ DstP wr hd TL 4 kv m.length (cellsOf (m.length * 4) (linkCell m)) S ∧ (∀ k, S k → hd ≤ k ∧ k < wr.heap.size) ∧
      ∀ w'', Off (fun x => x = g ∨ S x ∨ x = gR) wr w'' → Sets w'' w.heap.size w''.heap.size sv l
theorem DnB.fin (h : DnB b0 g cn cv TS TL w gR gN hi hd kv sv dv l f ds m wr) (hg : g < w.heap.size) (hR : w.heap.size ≤ gR) (hRN : gR < gN) : DnF b0 g cn cv TL w gR gN kv sv l m wr := by
  have a1 := h.h1
  have a2 := h.h2
  refine ⟨h.drw, h.res, h.box, h.few, fun k => hd ≤ k ∧ k < wr.heap.size, hd, by omega, h.h3, ?_, fun k hk => hk, fun w'' hx => ?_⟩
  · rcases h.lks with ⟨a, b⟩ | a
    · exact .inl ⟨a, fun k hk => ⟨b k hk, (a.lt k hk).2⟩⟩
    · exact .inr a
  · exact (h.sets.off hx (fun k hk hh => by omega)).sets (by omega) (fun k hk => by omega)
theorem DnB.fin1 {bb : Nat} (h : DnB b0 g cn cv TS TL w gR gN hi hd kv sv dv l f ds m wr) (hg : g < w.heap.size) (hR : w.heap.size ≤ gR) (hRN : gR < gN) (hx : Ext wr w3) (hu : w3.ownsRow bb TE 2 u s.length (cellsOf (s.length * 2) (spanCell s))) (hb : wr.heap.size ≤ bb) (hs : s.length ≤ 400)
    (hp : Put (gN + 1) w3 sv w4 v4) (h4 : w4.ownsRow (gN + 1) TS 1 v4 (l.length + 1) (cellsOf (l.length * 1) f ++ cellsOf (1 * 1) (fun _ => u))) : DnF b0 g cn cv TL w gR gN kv v4 (l ++ [s]) m (w4.setCell ⟨gN, 0, none⟩ v4) := by
  have a1 := h.h1
  have a2 := h.h2
  have a3 := h.h3
  have hz := hx.size
  have hpz := hp.1.size
  have hz2 : (w4.setCell ⟨gN, 0, none⟩ v4).heap.size = w4.heap.size := by simp [World.setCell]
  obtain ⟨gu, hgu, hou⟩ := Own.of_owned hu
  obtain ⟨f', h5⟩ := (h.sets.mono (P' := fun k => (gN + 1 ≤ k ∧ k < hi) ∨ wr.heap.size ≤ k) (fun k hk => .inl hk)).push hx (fun h0 => by have := (hgu h0).2; omega) (by omega) (fun k hk => .inr hk) hou hp h4
  have hown : ∀ k, sv.ownBlock = some k → gN + 1 ≤ k → gN + 1 ≤ k ∧ k < hi := fun k hk h0 => by
    rcases h.sets.1 with ⟨_, b⟩ | ⟨_, _, _, c⟩
    · exact b k hk
    · have := (c k hk).1; omega
  have hS : Off (fun k => k = gN ∨ (gN + 1 ≤ k ∧ k < hi)) w3 (w4.setCell ⟨gN, 0, none⟩ v4) := (hp.1.mono (fun k hk => .inr (hown k hk.2.2 hk.1))).setCell (p := ⟨gN, 0, none⟩) (.inl (.inl rfl)) _
  have no : ¬ (gN + 1 ≤ gN ∧ gN < w3.heap.size ∧ sv.ownBlock = some gN) := fun hh => by have := hh.1; omega
  refine ⟨((h.drw.ext hx).put hg hp (by omega)).setCell (by show _ ≤ gN; omega) (by show _ < gN; omega) _, (h.res.ext hx).off hS (fun hh => by omega), ?_, few_push h.few hs, fun k => hd ≤ k ∧ k < wr.heap.size, hd, by omega, by omega, ?_, fun k hk => ⟨hk.1, by omega⟩, fun w'' hx2 => ?_⟩
  · exact ((h.box.ext hx).off hp.1 no).set 0 v4 (by simp)
  · refine DstP.off (S := fun k => k = gN ∨ (gN + 1 ≤ k ∧ k < hi)) (DstP.ext ?_ hx) hS (fun k hk hh => by omega)
    rcases h.lks with ⟨a, b⟩ | a
    · exact .inl ⟨a, fun k hk => ⟨b k hk, (a.lt k hk).2⟩⟩
    · exact .inr a
  · have h6 := h5.off (S := One gN) (Off.setCell (S := One gN) (p := ⟨gN, 0, none⟩) (u := v4) (Off.refl _ _) (.inl rfl)) (fun k hk hh => by have e : k = gN := hh; omega)
    exact (h6.off hx2 (fun k hk hh => by omega)).sets (by omega) (fun k hk => by omega)
theorem DnB.fin1D {bb : Nat} (h : DnB b0 g cn cv TS TL w gR gN hi hd kv sv dv l f ds m wr) (hg : g < w.heap.size) (hR : w.heap.size ≤ gR) (hRN : gR < gN) (hd' : Drw b0 g cv cn wr w2) (hx : Ext w2 w3) (hu : w3.ownsRow bb TE 2 u s.length (cellsOf (s.length * 2) (spanCell s))) (hb : wr.heap.size ≤ bb) (hs : s.length ≤ 400)
    (hp : Put (gN + 1) w3 sv w4 v4) (h4 : w4.ownsRow (gN + 1) TS 1 v4 (l.length + 1) (cellsOf (l.length * 1) f ++ cellsOf (1 * 1) (fun _ => u))) : DnF b0 g cn cv TL w gR gN kv v4 (l ++ [s]) m (w4.setCell ⟨gN, 0, none⟩ v4) := by
  have a1 := h.h1
  have a2 := h.h2
  have a3 := h.h3
  have hz := hx.size
  have hdz := hd'.size
  have hpz := hp.1.size
  have hz2 : (w4.setCell ⟨gN, 0, none⟩ v4).heap.size = w4.heap.size := by simp [World.setCell]
  obtain ⟨gu, hgu, hou⟩ := Own.of_owned hu
  obtain ⟨f', h5⟩ := (h.sets.mono (P' := fun k => (gN + 1 ≤ k ∧ k < hi) ∨ wr.heap.size ≤ k) (fun k hk => .inl hk)).pushS (S := One g) (hd'.off.trans (Off.of_ext hx)) (fun k hk hh => by have e : k = g := hh; omega) (fun h0 => by have := (hgu h0).2; omega) (by omega) (fun k hk => .inr hk) hou hp h4
  have hown : ∀ k, sv.ownBlock = some k → gN + 1 ≤ k → gN + 1 ≤ k ∧ k < hi := fun k hk h0 => by
    rcases h.sets.1 with ⟨_, b⟩ | ⟨_, _, _, c⟩
    · exact b k hk
    · have := (c k hk).1; omega
  have hS : Off (fun k => k = gN ∨ (gN + 1 ≤ k ∧ k < hi)) w3 (w4.setCell ⟨gN, 0, none⟩ v4) := (hp.1.mono (fun k hk => .inr (hown k hk.2.2 hk.1))).setCell (p := ⟨gN, 0, none⟩) (.inl (.inl rfl)) _
  have no : ¬ (gN + 1 ≤ gN ∧ gN < w3.heap.size ∧ sv.ownBlock = some gN) := fun hh => by have := hh.1; omega
  refine ⟨(((h.drw.trans hd').ext hx).put hg hp (by omega)).setCell (by show _ ≤ gN; omega) (by show _ < gN; omega) _, ((h.res.drw hd' (by omega)).ext hx).off hS (fun hh => by omega), ?_, few_push h.few hs, fun k => hd ≤ k ∧ k < wr.heap.size, hd, by omega, by omega, ?_, fun k hk => ⟨hk.1, by omega⟩, fun w'' hx2 => ?_⟩
  · exact (((h.box.drw hd' (by omega)).ext hx).off hp.1 no).set 0 v4 (by simp)
  · refine DstP.off (S := fun k => k = gN ∨ (gN + 1 ≤ k ∧ k < hi)) (DstP.ext (DstP.off ?_ hd'.off (fun k hk hh => by have e : k = g := hh; omega)) hx) hS (fun k hk hh => by omega)
    rcases h.lks with ⟨a, b⟩ | a
    · exact .inl ⟨a, fun k hk => ⟨b k hk, (a.lt k hk).2⟩⟩
    · exact .inr a
  · have h6 := h5.off (S := One gN) (Off.setCell (S := One gN) (p := ⟨gN, 0, none⟩) (u := v4) (Off.refl _ _) (.inl rfl)) (fun k hk hh => by have e : k = gN := hh; omega)
    exact (h6.off hx2 (fun k hk hh => by omega)).sets (by omega) (fun k hk => by omega)
theorem DnF.done (h : DnF b0 g cn cv TL w gR gN kv sv l m wr) (hg : g < w.heap.size) (hR : w.heap.size ≤ gR) (hRN : gR < gN) (hl : l.length ≤ 6) (hm : m.length ≤ 6) :
    DrNet b0 g cv cn TL w (.returned (.agg #[sv, kv])) ((wr.setCell ⟨gR, 0, none⟩ sv).setCell ⟨gR, 1, none⟩ kv) := by
  obtain ⟨S, hd, e1, e2, e3, e4, e5⟩ := h.ends
  have hz : ((wr.setCell ⟨gR, 0, none⟩ sv).setCell ⟨gR, 1, none⟩ kv).heap.size = wr.heap.size := by simp [World.setCell]
  have hO : Off (One gR) wr ((wr.setCell ⟨gR, 0, none⟩ sv).setCell ⟨gR, 1, none⟩ kv) := Off.setCell (S := One gR) (p := ⟨gR, 1, none⟩) (Off.setCell (S := One gR) (p := ⟨gR, 0, none⟩) (Off.refl _ _) (.inl rfl) _) (.inl rfl) _
  refine ⟨sv, kv, ⟨l, m⟩, rfl, (h.drw.setCell (by show _ ≤ gR; omega) (by show _ < gR; omega) _).setCell (by show _ ≤ gR; omega) (by show _ < gR; omega) _, ⟨hl, hm, h.few⟩, S, hd, by omega, by omega, e3.off hO (fun k hk hh => by have e : k = gR := hh; have := (e4 k hk).1; omega), fun k hk => ⟨(e4 k hk).1, by have := (e4 k hk).2; omega⟩, fun w'' hx => ?_⟩
  exact e5 w'' ((hO.mono (fun k hk => .inr (.inr hk))).trans (hx.mono (fun k hk => hk.elim .inl (fun h => .inr (.inl h)))))
end
end Go.Proofs.YtfmnkojjkjkdeaaGreatDoor

/- Networks in which statements are given up: plain data, and such a network under way in memory. No program in sight. -/
namespace Go.Proofs.YtfmnkojjkjkdeaaGreatDoor
set_option linter.unusedVariables false
set_option linter.unusedSimpArgs false
open Go.RowKit

/-! ### the plain data -/
def HasI (l : List Int) (x : Int) : Prop := ∃ i, i < l.length ∧ inAt l i = x
def StmOk (n : Net) (l : List Int) : Prop := ∀ i, i < l.length → (0 ≤ inAt l i ∧ inAt l i ≤ (n.sets.length : Int) + n.links.length - 1) ∧ (0 < i → inAt l (i - 1) < inAt l i)
noncomputable def stmE (n : Net) (l : List Int) : Int := bif B (NetOk n) then (bif B (StmOk n l) then 0 else 2) else 1
theorem stm_net {n : Net} {l : List Int} (h : ¬ NetOk n) : stmE n l = 1 := by unfold stmE; rw [B_false h]; rfl
theorem stm_bad {n : Net} {l : List Int} (h : NetOk n) (h2 : ¬ StmOk n l) : stmE n l = 2 := by unfold stmE; rw [B_true h, B_false h2]; rfl
theorem stm_ok {n : Net} {l : List Int} (h : NetOk n) (h2 : StmOk n l) : stmE n l = 0 := by unfold stmE; rw [B_true h, B_true h2]; rfl
def allDays : List Sp := [⟨0, 730499⟩]
noncomputable def gvS (is : Nat → Prop) (l : List (List Sp)) : Nat → List (List Sp)
  | 0 => []
  | j + 1 => gvS is l j ++ [bif B (is j) then allDays else setAt l j]
noncomputable def gvL (is : Nat → Prop) (N : Nat) (l : List Lk) : Nat → List Lk
  | 0 => []
  | j + 1 => bif B (is (N + j)) then gvL is N l j else gvL is N l j ++ [lkAt l j]
noncomputable def giveN (is : Nat → Prop) (n : Net) : Net := ⟨gvS is n.sets n.sets.length, gvL is n.sets.length n.links n.links.length⟩
theorem gvS_len (is : Nat → Prop) (l : List (List Sp)) : ∀ j, (gvS is l j).length = j
  | 0 => rfl
  | j + 1 => by unfold gvS; rw [List.length_append, gvS_len is l j]; rfl
theorem gvS_yes {is : Nat → Prop} {l : List (List Sp)} {j : Nat} (h : is j) : gvS is l (j + 1) = gvS is l j ++ [allDays] := by show gvS is l j ++ [bif B (is j) then _ else _] = _; rw [B_true h]; rfl
theorem gvS_no {is : Nat → Prop} {l : List (List Sp)} {j : Nat} (h : ¬ is j) : gvS is l (j + 1) = gvS is l j ++ [setAt l j] := by show gvS is l j ++ [bif B (is j) then _ else _] = _; rw [B_false h]; rfl
theorem gvL_yes {is : Nat → Prop} {N : Nat} {l : List Lk} {j : Nat} (h : is (N + j)) : gvL is N l (j + 1) = gvL is N l j := by show (bif B (is (N + j)) then _ else _) = _; rw [B_true h]; rfl
theorem gvL_no {is : Nat → Prop} {N : Nat} {l : List Lk} {j : Nat} (h : ¬ is (N + j)) : gvL is N l (j + 1) = gvL is N l j ++ [lkAt l j] := by show (bif B (is (N + j)) then _ else _) = _; rw [B_false h]; rfl
theorem gvL_len (is : Nat → Prop) (N : Nat) (l : List Lk) : ∀ j, (gvL is N l j).length ≤ j
  | 0 => Nat.le_refl _
  | j + 1 => by
    have ih := gvL_len is N l j
    by_cases h : is (N + j)
    · rw [gvL_yes h]; omega
    · rw [gvL_no h, List.length_append]; simp; omega
theorem gvS_at (is : Nat → Prop) (l : List (List Sp)) : ∀ j i, i < j → setAt (gvS is l j) i = bif B (is i) then allDays else setAt l i
  | 0, i, h => absurd h (by omega)
  | j + 1, i, h => by
    have hl := gvS_len is l j
    show setAt (gvS is l j ++ [bif B (is j) then allDays else setAt l j]) i = _
    rw [setAt_push _ _ (by omega), hl]
    by_cases e : i = j
    · rw [if_pos e, e]
    · rw [if_neg e]; exact gvS_at is l j i (by omega)
theorem allDays_ok : SetOk allDays := ⟨by simp [allDays], fun i hi => by
  have : i = 0 := by simp [allDays] at hi; omega
  subst this
  exact ⟨⟨⟨by decide, by decide⟩, ⟨by decide, by decide⟩, by decide⟩, fun h => absurd h (by omega)⟩⟩
theorem gvL_mem (is : Nat → Prop) (N : Nat) (l : List Lk) : ∀ j i, i < (gvL is N l j).length → ∃ i', i' < j ∧ lkAt (gvL is N l j) i = lkAt l i'
  | 0, i, h => absurd h (by simp [gvL])
  | j + 1, i, h => by
    by_cases hh : is (N + j)
    · rw [gvL_yes hh] at h ⊢
      obtain ⟨i', h1, h2⟩ := gvL_mem is N l j i h
      exact ⟨i', by omega, h2⟩
    · rw [gvL_no hh] at h ⊢
      rw [List.length_append] at h
      rw [lkAt_push _ _ h]
      by_cases e : i = (gvL is N l j).length
      · rw [if_pos e]; exact ⟨j, by omega, rfl⟩
      · rw [if_neg e]
        have h' : i < (gvL is N l j).length := by simp at h; omega
        obtain ⟨i', h1, h2⟩ := gvL_mem is N l j i h'
        exact ⟨i', by omega, h2⟩
theorem giveN_ok {is : Nat → Prop} {n : Net} (h : NetOk n) : NetOk (giveN is n) := by
  obtain ⟨h1, h2, h3, h4⟩ := h
  have hl := gvS_len is n.sets n.sets.length
  refine ⟨by show (gvS _ _ _).length ≤ 8; omega, Nat.le_trans (gvL_len _ _ _ _) h2, fun i hi => ?_, fun i hi => ?_⟩
  · have hi' : i < n.sets.length := by have : i < (gvS is n.sets n.sets.length).length := hi; omega
    show SetOk (setAt (gvS _ _ _) i)
    rw [gvS_at is n.sets _ i hi']
    cases B (is i)
    · exact h3 i hi'
    · exact allDays_ok
  · show LkOk (lkAt (gvL _ _ _ _) i) (gvS is n.sets n.sets.length).length
    obtain ⟨i', hi', e⟩ := gvL_mem is n.sets.length n.links n.links.length i hi
    rw [e, hl]
    exact h4 i' hi'

/-! ### under way -/
theorem Own.of_dst {w : World} {base n sz : Nat} {e : TypeId} {v : Value} {f : Nat → Value} (h : Dst w base e sz v n (cellsOf (n * sz) f)) :
    ∃ g, (0 < n → v.ownBlock = some g ∧ base ≤ g) ∧ Own w g sz v n f := by
  rcases h with h | ⟨h1, _, ⟨A, e⟩, _⟩
  · exact Own.of_owned h
  · exact ⟨0, fun h => absurd h (by omega), by rw [h1]; exact ⟨Nat.zero_le _, A, 0, e, Nat.le_refl _, fun h => absurd h (by omega)⟩⟩
def GvSt (TL : Nat) (w : World) (go b1 : Nat) (s0 k0 : Value) (sets : List (List Sp)) (links : List Lk) (sv kv : Value) (wr : World) : Prop :=
  Ext w wr ∧ Boxed wr w.heap.size [s0, k0] ∧ Boxed wr (w.heap.size + 1) [.slice none 0 0, .slice none 0 0] ∧ Boxed wr go [sv, kv] ∧ w.heap.size + 1 < go ∧ go < b1 ∧ b1 ≤ wr.heap.size ∧
    OwnSets wr (go + 1) b1 sv sets ∧ Dst wr b1 TL 4 kv links.length (cellsOf (links.length * 4) (linkCell links))
theorem Dst.ext {w w' : World} {b : Nat} {e : TypeId} {sz n : Nat} {v : Value} {xs : List Value} (h : Dst w b e sz v n xs) (hx : Ext w w') : Dst w' b e sz v n xs :=
  h.off (S := fun _ => False) (Off.of_ext hx) (fun _ _ h => h)
theorem GvSt.ext {TL : Nat} {w wr w2 : World} {go b1 : Nat} {s0 k0 sv kv : Value} {sets : List (List Sp)} {links : List Lk} (h : GvSt TL w go b1 s0 k0 sets links sv kv wr) (hx : Ext wr w2) : GvSt TL w go b1 s0 k0 sets links sv kv w2 := by
  obtain ⟨h1, h2, h3, h4, h5, h6, h7, h8, h9⟩ := h
  exact ⟨h1.trans hx, h2.ext hx, h3.ext hx, h4.ext hx, h5, h6, Nat.le_trans h7 hx.size, h8.ext hx, h9.ext hx⟩
theorem GvSt.push {TL : Nat} {w wr w2 w3 : World} {go b1 : Nat} {s0 k0 sv kv k3 : Value} {sets : List (List Sp)} {links : List Lk} {l : Lk} (h : GvSt TL w go b1 s0 k0 sets links sv kv wr) (hx : Ext wr w2)
    (hp : Put b1 w2 kv w3 k3) (h4 : w3.ownsRow b1 TL 4 k3 (links.length + 1) (cellsOf (links.length * 4) (linkCell links) ++ cellsOf (1 * 4) (linkCell [l]))) :
    GvSt TL w go b1 s0 k0 sets (links ++ [l]) sv k3 (w3.setCell ⟨go, 1, none⟩ k3) := by
  obtain ⟨a1, a2, a3, a4, a5, a6, a7, a8, a9⟩ := h.ext hx
  have no : ∀ {k : Nat}, k < b1 → ¬ (b1 ≤ k ∧ k < w2.heap.size ∧ kv.ownBlock = some k) := fun hk hh => by have := hh.1; omega
  have hs : Off (fun k => k = go) w3 (w3.setCell ⟨go, 1, none⟩ k3) := Off.setCell (S := fun k => k = go) (p := ⟨go, 1, none⟩) (Off.refl _ _) (.inl rfl) _
  have hz := hp.size
  have hz2 := hs.size
  refine ⟨(hp.ext a1 (by omega)).off hs (fun k hk hh => by omega), (a2.off hp.1 (no (by omega))).off hs (fun hh => by omega), (a3.off hp.1 (no (by omega))).off hs (fun hh => by omega),
    (a4.off hp.1 (no (by omega))).set 1 k3 (by simp), a5, a6, by omega, (a8.off hp.1 (fun k h1 h2 => no h2)).off hs (fun k h1 h2 hh => by omega), .inl ?_⟩
  rw [← linkCells_push]
  refine ownsRow_off ?_ hs (fun g hg hh => by have := (h4.lt g hg).1; omega)
  simpa using h4
theorem GvSt.done {TL : Nat} {w wr : World} {go b1 : Nat} {s0 k0 sv kv : Value} {sets : List (List Sp)} {links : List Lk} (h : GvSt TL w go b1 s0 k0 sets links sv kv wr) :
    NewNet ⟨sets, links⟩ w (.returned (.agg #[sv, kv])) ((wr.setCell ⟨w.heap.size + 1, 0, none⟩ sv).setCell ⟨w.heap.size + 1, 1, none⟩ kv) := by
  obtain ⟨a1, a2, a3, a4, a5, a6, a7, a8, a9⟩ := h
  have hs : Off (fun k => k = w.heap.size + 1) wr ((wr.setCell ⟨w.heap.size + 1, 0, none⟩ sv).setCell ⟨w.heap.size + 1, 1, none⟩ kv) :=
    Off.setCell (S := fun k => k = w.heap.size + 1) (p := ⟨w.heap.size + 1, 1, none⟩) (Off.setCell (S := fun k => k = w.heap.size + 1) (p := ⟨w.heap.size + 1, 0, none⟩) (Off.refl _ _) (.inl rfl) _) (.inl rfl) _
  have hz := hs.size
  obtain ⟨gk, h1, h2⟩ := Own.of_dst a9
  refine ⟨sv, kv, rfl, a1.off hs (fun k hk hh => by omega), sv, kv, go + 1, b1, gk, rfl, by omega, by omega, a8.off hs (fun k h1 h2 hh => by omega), h2.off hs (fun hn hh => by have := (h1 hn).2; omega), fun hn => ?_⟩
  have h3 := (h1 hn).2
  have h4 := h2.lt hn
  exact ⟨by omega, by omega, by omega⟩
theorem GvSt.start {TL TS : Nat} {w wr : World} {go : Nat} {s0 k0 kv sv : Value} {sets : List (List Sp)} (h : OwnSt TL TS w go s0 k0 kv noNet sets sv wr) (hk : ∃ A, kv = .slice A 0 0) :
    GvSt TL w go wr.heap.size s0 k0 sets [] sv kv wr := by
  obtain ⟨hx, h1, h2, hb, h3, h5, _, h4⟩ := h
  refine ⟨hx, h1, h2, hb, h3, hb.1, Nat.le_refl _, h4.sets, .inr ⟨rfl, by simp [cellsOf], hk, fun g hg => (h5.lt g hg).2⟩⟩
end Go.Proofs.YtfmnkojjkjkdeaaGreatDoor
