/- Texts merged (a claim holds at most sixty files): Dg, Dh, Dk, Dn. -/
import Derived.Test.YtfmnkojjkjkdeaaGreatDoorQ3Dd
/- Contracts: networks that are drawn from a code (the layers of networks and of narrowing). -/
namespace Go.Proofs.YtfmnkojjkjkdeaaGreatDoor
set_option linter.unusedVariables false
set_option linter.unusedSimpArgs false
open Go.RowKit
attribute [local go_sem] cell_onto

theorem Bytes.up {w w' : World} {n : Nat} {v : Value} (h : Bytes w 0 w.heap.size v n) (hx : Ext w w') : Bytes w' 0 w'.heap.size v n := by
  obtain ⟨h0, f, h1, h2⟩ := h.ext hx (Nat.le_refl _)
  exact ⟨h0, f, h1.mono (Nat.le_refl _) hx.size, h2⟩
theorem NetAt.drw {b0 g cn lo hi : Nat} {cv s k : Value} {n : Net} {w w' : World} (h : NetAt w lo hi s k n) (hx : Drw b0 g cv cn w w') (hg : g < lo) (hh : hi ≤ w.heap.size) : NetAt w' lo hi s k n :=
  h.off hx.off (fun x h1 _ hh => by have e : x = g := hh; omega) hh
theorem NetAt.wide {lo hi lo' hi' : Nat} {s k : Value} {n : Net} {w : World} (h : NetAt w lo hi s k n) (h1 : lo' ≤ lo) (h2 : hi ≤ hi') : NetAt w lo' hi' s k n := ⟨h.1.mono h1 h2, h.2.mono h1 h2⟩
/-- what a draw of a network out of a code returns -/
def DNet (P : Net → Prop) (w : World) (e : Ending) (w' : World) : Prop :=
  ∃ (s k : Value) (n : Net), e = .returned (.agg #[s, k]) ∧ Ext w w' ∧ Few n ∧ P n ∧ NetAt w' w.heap.size w'.heap.size s k n
/-- .. and one thing more -/
def DNetV (P : Net → Value → Prop) (w : World) (e : Ending) (w' : World) : Prop :=
  ∃ (s k v : Value) (n : Net), e = .returned (.tuple #[.agg #[s, k], v]) ∧ Ext w w' ∧ Few n ∧ P n v ∧ NetAt w' w.heap.size w'.heap.size s k n
/-- .. and two things more -/
def DNetVV (P : Net → Value → Value → Prop) (w : World) (e : Ending) (w' : World) : Prop :=
  ∃ (s k v u : Value) (n : Net), e = .returned (.tuple #[.agg #[s, k], v, u]) ∧ Ext w w' ∧ Few n ∧ P n v u ∧ NetAt w' w.heap.size w'.heap.size s k n
/-- the result's box is written: what was drawn stays -/
theorem net_store {gR lo : Nat} {s k a b : Value} {n : Net} {w : World} (h : NetAt w lo w.heap.size s k n) (hg : gR < lo) : NetAt ((w.setCell ⟨gR, 0, none⟩ a).setCell ⟨gR, 1, none⟩ b) lo ((w.setCell ⟨gR, 0, none⟩ a).setCell ⟨gR, 1, none⟩ b).heap.size s k n := by
  have hO : Off (One gR) w ((w.setCell ⟨gR, 0, none⟩ a).setCell ⟨gR, 1, none⟩ b) := Off.setCell (S := One gR) (p := ⟨gR, 1, none⟩) (Off.setCell (S := One gR) (p := ⟨gR, 0, none⟩) (Off.refl _ _) (.inl rfl) _) (.inl rfl) _
  exact (h.off hO (fun x h1 _ hh => by have e : x = gR := hh; omega) (Nat.le_refl _)).wide (Nat.le_refl _) hO.size
/-! ### the source and one box have turned -/
structure DrwR (b0 g q : Nat) (cv : Value) (cn : Nat) (w w' : World) : Prop where
  off : Off (fun k => k = g ∨ k = q) w w'
  src : Src b0 g cv cn w'
section
variable {b0 g q cn : Nat} {cv : Value} {w w' w'' : World}
theorem DrwR.refl (h : Src b0 g cv cn w) : DrwR b0 g q cv cn w w := ⟨Off.refl _ _, h⟩
theorem DrwR.of (h : Drw b0 g cv cn w w') : DrwR b0 g q cv cn w w' := ⟨h.off.mono (fun _ hk => .inl hk), h.src⟩
theorem DrwR.drw (h : DrwR b0 g q cv cn w w') (k : Drw b0 g cv cn w' w'') : DrwR b0 g q cv cn w w'' := ⟨h.off.trans (k.off.mono (fun _ hk => .inl hk)), k.src⟩
theorem DrwR.ext (h : DrwR b0 g q cv cn w w') (hx : Ext w' w'') : DrwR b0 g q cv cn w w'' := ⟨h.off.trans (Off.of_ext hx), h.src.ext hx⟩
theorem DrwR.alloc (h : DrwR b0 g q cv cn w w') (o : Obj) : DrwR b0 g q cv cn w (w'.alloc o) := h.ext ((Ext.refl _).alloc o)
theorem DrwR.drew (h : DrwR b0 g q cv cn w w') : DrwR b0 g q cv cn w w'.drew := h.ext (Ext.refl _).drew
theorem Src.at_box (h : Src b0 g cv cn w) (hq : q ≠ g) (hb : b0 ≤ q) (i : Nat) (u : Value) : Src b0 g cv cn (w.setCell ⟨q, i, none⟩ u) := by
  obtain ⟨j, s, h1, h2⟩ := h.box
  have hl := h.lt
  have h0 := h.lo
  exact ⟨h.lo, h.code.off (S := One q) (Off.setCell (S := One q) (p := ⟨q, i, none⟩) (Off.refl _ _) (.inl rfl) u) (fun k _ hk hh => by have e : k = q := hh; omega) (by omega), j, s, h1.setOther (p := ⟨q, i, none⟩) (Ne.symm hq) u, h2⟩
theorem DrwR.set (h : DrwR b0 g q cv cn w w') (hq : q ≠ g) (hb : b0 ≤ q) (i : Nat) (u : Value) : DrwR b0 g q cv cn w (w'.setCell ⟨q, i, none⟩ u) :=
  ⟨h.off.setCell (p := ⟨q, i, none⟩) (.inl (.inr rfl)) u, h.src.at_box hq hb i u⟩
theorem DrwR.size (h : DrwR b0 g q cv cn w w') : w.heap.size ≤ w'.heap.size := h.off.size
theorem DrwR.cell (h : DrwR b0 g q cv cn w w') {b o : Nat} (hb : b < w.heap.size) (hg : b ≠ g) (hq : b ≠ q) : w'.cell? ⟨b, o, none⟩ = w.cell? ⟨b, o, none⟩ := h.off.cell (p := ⟨b, o, none⟩) hb (fun hh => hh.elim hg hq)
theorem DrwR.keep2 {p : Nat} {a b : Value} (h : DrwR b0 g q cv cn w w') (hb : p < w.heap.size) (hg : p ≠ g) (hq : p ≠ q) (c0 : w.cell? ⟨p, 0, none⟩ = some a) (c1 : w.cell? ⟨p, 1, none⟩ = some b) :
    DrwR b0 g q cv cn w w' ∧ w'.cell? ⟨p, 0, none⟩ = some a ∧ w'.cell? ⟨p, 1, none⟩ = some b := ⟨h, (h.cell hb hg hq).trans c0, (h.cell hb hg hq).trans c1⟩
theorem DrwR.old {a : World} (h : DrwR b0 g q cv cn w w') (ha : Ext a w) (hg : a.heap.size ≤ g) (hq : a.heap.size ≤ q) : Ext a w' := ha.off h.off (fun k hk hh => by omega)
theorem DrwR.net {lo : Nat} {s k : Value} {n : Net} (h : DrwR b0 g q cv cn w w') (hn : NetAt w lo w.heap.size s k n) (hg : g < lo) (hq : q < lo) : NetAt w' lo w'.heap.size s k n :=
  (hn.off h.off (fun x h1 _ hh => by omega) (Nat.le_refl _)).wide (Nat.le_refl _) h.size
theorem Boxed.drew {p : Nat} {cs : List Value} (h : Boxed w p cs) : Boxed w.drew p cs := h.ext (Ext.refl _).drew
/-- the source, seen from where the code ends -/
theorem Src.low {b1 : Nat} (h : Src b0 g cv cn w) (hb : b1 ≤ g) (hc : Bytes w 0 b1 cv cn) : Src b1 g cv cn w := ⟨hb, hc, h.box⟩
end
/-- .. and a list of whole numbers -/
def DNetI (w : World) (e : Ending) (w' : World) : Prop :=
  ∃ (s k v : Value) (n : Net) (l : List Int), e = .returned (.tuple #[.agg #[s, k], v]) ∧ Ext w w' ∧ Few n ∧ NetAt w' w.heap.size w'.heap.size s k n ∧ Ints w' w.heap.size w'.heap.size v l
theorem own_ints {w : World} {base T n : Nat} {v : Value} {l : List Int} (h : w.ownsRow base T 1 v n (cellsOf (l.length * 1) (intCell l))) (hn : n = l.length) : Ints w base w.heap.size v l := by
  subst hn
  obtain ⟨g, h1, h2⟩ := Own.of_owned h
  exact h2.row (fun h0 => ⟨(h1 h0).2, h2.lt h0⟩)
theorem own_set0 {w : World} {g off N c : Nat} {l : List Int} (h : Own w g 1 (.slice (some ⟨g, off, none⟩) N c) N (intCell l)) (hx : l.length = N) (h0 : 0 < N) (a : Int) : Own (w.setCell ⟨g, off, none⟩ (.int .i64 a)) g 1 (.slice (some ⟨g, off, none⟩) N c) N (intCell (l.set 0 a)) := by
  have h2 := h.set 0 (.int .i64 a) (by omega)
  refine h2.congr (fun i hi => ?_)
  unfold intCell inAt
  rw [List.getD_eq_getElem?_getD, List.getD_eq_getElem?_getD]
  by_cases e : i = 0
  · subst e
    rw [if_pos rfl, List.getElem?_set_self (by omega)]
    rfl
  · rw [if_neg e, List.getElem?_set_ne (by omega)]
theorem DNetI.fin {b0 g q cn lo : Nat} {cv s k v : Value} {n : Net} {l : List Int} {w w3 wz : World} (hx : Ext w w3) (hd : Drw b0 g cv cn w3 wz) (hN : NetAt w3 lo w3.heap.size s k n) (hg : g < lo) (hq : q < lo) (hwq : w.heap.size ≤ q) (hwg : w.heap.size ≤ g)
    (hI : Ints wz lo wz.heap.size v l) (hf : Few n) : DNetI w (.returned (.tuple #[.agg #[s, k], v])) ((wz.setCell ⟨q, 0, none⟩ s).setCell ⟨q, 1, none⟩ k) := by
  have hE := hd.old hx hwg
  have hO : Off (One q) wz ((wz.setCell ⟨q, 0, none⟩ s).setCell ⟨q, 1, none⟩ k) := Off.setCell (S := One q) (p := ⟨q, 1, none⟩) (Off.setCell (S := One q) (p := ⟨q, 0, none⟩) (Off.refl _ _) (.inl rfl) _) (.inl rfl) _
  refine ⟨s, k, v, n, l, rfl, (hE.setCell (p := ⟨q, 0, none⟩) hwq _).setCell (p := ⟨q, 1, none⟩) hwq _, hf, ?_, ?_⟩
  · exact (net_store ((hN.drw hd hg (Nat.le_refl _)).wide (Nat.le_refl _) hd.size) hq).wide (by omega) (Nat.le_refl _)
  · exact (Row.off hI hO (fun x h1 _ hh => by have e : x = q := hh; omega) (Nat.le_refl _)).mono (by omega) hO.size
end Go.Proofs.YtfmnkojjkjkdeaaGreatDoor

/- Contracts: networks that the layer of narrowing draws from a code. -/
namespace Go.Proofs.YtfmnkojjkjkdeaaGreatDoor
set_option linter.unusedVariables false
set_option linter.unusedSimpArgs false
open Go.RowKit
attribute [local go_sem] cell_onto

/-- a network drawn: to be read, in new blocks -/
def DNetW (w : World) (e : Ending) (w' : World) : Prop := ∃ (s k : Value) (n : Net), e = .returned (.agg #[s, k]) ∧ Ext w w' ∧ NetAt w' w.heap.size w'.heap.size s k n
/-- a box is written: what was drawn before stays, nothing old turns -/
theorem DNetW.fin {w wz : World} {q lo : Nat} {s k : Value} {n : Net} (hx : Ext w wz) (hN : NetAt wz lo wz.heap.size s k n) (hq : q < lo) (hwq : w.heap.size ≤ q) : DNetW w (.returned (.agg #[s, k])) ((wz.setCell ⟨q, 0, none⟩ s).setCell ⟨q, 1, none⟩ k) :=
  ⟨s, k, n, rfl, (hx.setCell (p := ⟨q, 0, none⟩) hwq _).setCell (p := ⟨q, 1, none⟩) hwq _, (net_store hN hq).wide (by omega) (Nat.le_refl _)⟩
theorem NetAt.read {w : World} {lo : Nat} {s k : Value} {n : Net} (h : NetAt w lo w.heap.size s k n) : NetIn w s k n := ⟨h.1.mono (Nat.zero_le _) (Nat.le_refl _), h.2.mono (Nat.zero_le _) (Nat.le_refl _)⟩
def DNetX (w : World) (e : Ending) (w' : World) : Prop := ∃ (s k : Value) (n : Net) (x : Int), e = .returned (.tuple #[.agg #[s, k], .int .i64 x]) ∧ Ext w w' ∧ NetAt w' w.heap.size w'.heap.size s k n
def DNetXB (w : World) (e : Ending) (w' : World) : Prop := ∃ (s k : Value) (n : Net) (x : Int) (b : Bool), e = .returned (.tuple #[.agg #[s, k], .int .i64 x, .bool b]) ∧ Ext w w' ∧ NetAt w' w.heap.size w'.heap.size s k n
def DNetN (w : World) (e : Ending) (w' : World) : Prop := ∃ (s k s' k' : Value) (n m : Net), e = .returned (.tuple #[.agg #[s, k], .agg #[s', k']]) ∧ Ext w w' ∧ NetAt w' w.heap.size w'.heap.size s k n ∧ NetAt w' w.heap.size w'.heap.size s' k' m
/-- the network of two sets that the draws make by hand -/
def handNet (x : Int) : Net := ⟨[[⟨1000, x⟩], [⟨1000, x⟩]], [⟨0, 1, 1, 5⟩, ⟨1, 0, 0, 9⟩]⟩
theorem row_box {w : World} {g sz n : Nat} {cs : List Value} {f : Nat → Value} (h : Boxed w g cs) (hn : n ≤ 4096) (hl : cs.length = n * sz) (hf : ∀ i, i < n * sz → cs[i]? = some (f i)) (lo : Nat) (hlo : lo ≤ g) : Row w lo w.heap.size sz (.slice (some ⟨g, 0, none⟩) n n) n f :=
  ⟨by unfold maxLen; omega, _, _, rfl, Nat.le_refl _, fun _ => ⟨g, 0, rfl, hlo, h.1, fun i hi => by rw [Nat.zero_add]; exact (h.2 i _ (hf i hi)).1⟩⟩
theorem hand_net {w : World} {x : Int} {g1 g2 g3 g4 lo : Nat} (h1 : Boxed w g1 [.int .i64 1000, .int .i64 x]) (h2 : Boxed w g2 [.int .i64 1000, .int .i64 x]) (h3 : Boxed w g3 [.slice (some ⟨g1, 0, none⟩) 1 1, .slice (some ⟨g2, 0, none⟩) 1 1])
    (h4 : Boxed w g4 [.int .i64 0, .int .i64 1, .int .i64 1, .int .i64 5, .int .i64 1, .int .i64 0, .int .i64 0, .int .i64 9]) (l1 : lo ≤ g1) (l2 : lo ≤ g2) (l3 : lo ≤ g3) (l4 : lo ≤ g4) :
    NetAt w lo w.heap.size (.slice (some ⟨g3, 0, none⟩) 2 2) (.slice (some ⟨g4, 0, none⟩) 2 2) (handNet x) := by
  refine ⟨⟨fun i => if i = 0 then .slice (some ⟨g1, 0, none⟩) 1 1 else .slice (some ⟨g2, 0, none⟩) 1 1, ?_, ?_⟩, ?_⟩
  · exact row_box h3 (by show 2 ≤ 4096; omega) rfl (fun i hi => by
      have hi' : i < 2 := hi
      match i, hi' with
      | 0, _ => rfl
      | 1, _ => rfl) lo l3
  · intro i hi
    have hi' : i < 2 := hi
    match i, hi' with
    | 0, _ => exact row_box h1 (by show 1 ≤ 4096; omega) rfl (fun i hi => by
        have hi' : i < 2 := hi
        match i, hi' with
        | 0, _ => rfl
        | 1, _ => rfl) lo l1
    | 1, _ => exact row_box h2 (by show 1 ≤ 4096; omega) rfl (fun i hi => by
        have hi' : i < 2 := hi
        match i, hi' with
        | 0, _ => rfl
        | 1, _ => rfl) lo l2
  · exact row_box h4 (by show 2 ≤ 4096; omega) rfl (fun i hi => by
      have hi' : i < 8 := hi
      match i, hi' with
      | 0, _ => rfl
      | 1, _ => rfl
      | 2, _ => rfl
      | 3, _ => rfl
      | 4, _ => rfl
      | 5, _ => rfl
      | 6, _ => rfl
      | 7, _ => rfl) lo l4
theorem DrwR.drw_of {b0 g q cn : Nat} {cv : Value} {w w3 w' : World} (h : DrwR b0 g q cv cn w3 w') (h1 : Drw b0 g cv cn w w3) (hq : w.heap.size ≤ q) : Drw b0 g cv cn w w' :=
  ⟨h1.off.news h.off (fun k hk => hk.elim (fun e => .inl e) (fun e => .inr (by omega))), h.src⟩
/-- a network and a number, drawn out of a source -/
def DrNetX (b0 g : Nat) (cv : Value) (cn : Nat) (w : World) (e : Ending) (w' : World) : Prop :=
  ∃ (s k : Value) (n : Net) (x : Int), e = .returned (.tuple #[.agg #[s, k], .int .i64 x]) ∧ Drw b0 g cv cn w w' ∧ NetAt w' w.heap.size w'.heap.size s k n
end Go.Proofs.YtfmnkojjkjkdeaaGreatDoor

/- Contracts: networks that the layer of blame draws out of a source. -/
namespace Go.Proofs.YtfmnkojjkjkdeaaGreatDoor
set_option linter.unusedVariables false
set_option linter.unusedSimpArgs false
open Go.RowKit
attribute [local go_sem] cell_onto

theorem boxRow {w : World} {g sz n : Nat} {cs : List Value} {f : Nat → Value} (h : Boxed w g cs) (hn : n ≤ 4096) (hf : ∀ i, i < n * sz → cs[i]? = some (f i)) (lo : Nat) (hlo : lo ≤ g) : Row w lo w.heap.size sz (.slice (some ⟨g, 0, none⟩) n n) n f :=
  ⟨by unfold maxLen; omega, _, _, rfl, Nat.le_refl _, fun _ => ⟨g, 0, rfl, hlo, h.1, fun i hi => by rw [Nat.zero_add]; exact (h.2 i _ (hf i hi)).1⟩⟩
theorem linkCells_app (l m : List Lk) : cellsOf (l.length * 4) (linkCell l) ++ cellsOf (m.length * 4) (linkCell m) = cellsOf ((l ++ m).length * 4) (linkCell (l ++ m)) := by
  rw [cellsOf_append, List.length_append, Nat.add_mul]
  refine cellsOf_congr (fun i hi => ?_)
  have e : ∀ j, lkAt (l ++ m) j = if j < l.length then lkAt l j else lkAt m (j - l.length) := by
    intro j
    unfold lkAt
    rw [List.getD_eq_getElem?_getD, List.getD_eq_getElem?_getD, List.getD_eq_getElem?_getD]
    by_cases h : j < l.length
    · rw [if_pos h, List.getElem?_append_left h]
    · rw [if_neg h, List.getElem?_append_right (by omega)]
  by_cases h : i < l.length * 4
  · rw [if_pos h]
    unfold linkCell
    rw [e, if_pos (show i / 4 < l.length by omega)]
  · rw [if_neg h]
    unfold linkCell
    rw [e, if_neg (show ¬ i / 4 < l.length by omega), show (i - l.length * 4) % 4 = i % 4 by omega, show (i - l.length * 4) / 4 = i / 4 - l.length by omega]
theorem two_links (a b c d a' b' c' d' : Int) : ∀ i, i < 2 * 4 → [Value.int .i64 a, .int .i64 b, .int .i64 c, .int .i64 d, .int .i64 a', .int .i64 b', .int .i64 c', .int .i64 d'][i]? = some (linkCell [⟨a, b, c, d⟩, ⟨a', b', c', d'⟩] i) := fun i hi => by
  have hi' : i < 8 := hi
  match i, hi' with
  | 0, _ => rfl
  | 1, _ => rfl
  | 2, _ => rfl
  | 3, _ => rfl
  | 4, _ => rfl
  | 5, _ => rfl
  | 6, _ => rfl
  | 7, _ => rfl
theorem two_links_one (a b c d a' b' c' d' : Int) (i : Nat) : (linkCell [⟨a, b, c, d⟩, ⟨a', b', c', d'⟩] i).oneCell' = true := by
  unfold linkCell
  split
  · rfl
  · split
    · rfl
    · split <;> rfl
theorem DrNetQ.fin {b0 g q cn lo : Nat} {cv s k : Value} {n : Net} {w wz : World} (hd : Drw b0 g cv cn w wz) (hN : NetAt wz lo wz.heap.size s k n) (hq : q < lo) (hwq : w.heap.size ≤ q) (hg : g < w.heap.size) (hf : Few n) :
    DrNetQ b0 g cv cn w (.returned (.agg #[s, k])) ((wz.setCell ⟨q, 0, none⟩ s).setCell ⟨q, 1, none⟩ k) :=
  ⟨s, k, n, rfl, (hd.setCell (p := ⟨q, 0, none⟩) hwq (by show g < q; omega) _).setCell (p := ⟨q, 1, none⟩) hwq (by show g < q; omega) _, hf, (net_store hN hq).wide (by omega) (Nat.le_refl _)⟩
/-- two links more -/
theorem dst_blk {T hd b : Nat} {k v : Value} {n : Nat} {xs : List Value} {S : Nat → Prop} {w2 w7 w8 : World} (hk : DstP w2 hd T 4 k n xs S) (hS : ∀ k, S k → hd ≤ k ∧ k < w2.heap.size) (hp : Put hd w7 k w8 v) (hv : v.ownBlock = some b) : S b ∨ w7.heap.size ≤ b := by
  rcases hp.2 b hv with h | h
  · rcases hk with ⟨_, h2⟩ | ⟨_, _, _, h4⟩
    · exact .inl (h2 b h.2.2)
    · have := (h4 b h.2.2).1; have := h.1; omega
  · exact .inr h
theorem put_blk {T hd b : Nat} {k : Value} {n : Nat} {xs : List Value} {S : Nat → Prop} {w2 w7 : World} (hk : DstP w2 hd T 4 k n xs S) (h : hd ≤ b ∧ b < w7.heap.size ∧ k.ownBlock = some b) : S b := by
  rcases hk with ⟨_, h2⟩ | ⟨_, _, _, h4⟩
  · exact h2 b h.2.2
  · have := (h4 b h.2.2).1; have := h.1; omega
theorem net_two {b0 g cn T hd lo p : Nat} {cv s k v : Value} {n : Net} {S : Nat → Prop} {w2 w6 w7 w8 : World} {x y : Lk} (h6 : Drw b0 g cv cn w2 w6) (hlo : lo ≤ hd) (hk : DstP w2 hd T 4 k n.links.length (cellsOf (n.links.length * 4) (linkCell n.links)) S) (hS : ∀ k, S k → hd ≤ k ∧ k < w2.heap.size)
    (hs : ∀ w'', Off (fun x => x = g ∨ S x) w2 w'' → Sets w'' lo w''.heap.size s n.sets) (hx : Ext w6 w7) (hp : Put hd w7 k w8 v) (ho : w8.ownsRow hd T 4 v (n.links.length + 2) (cellsOf (n.links.length * 4) (linkCell n.links) ++ cellsOf (2 * 4) (linkCell [x, y]))) (hpb : w2.heap.size ≤ p) (hpz : p < w7.heap.size) (u : Value) :
    NetAt (w8.setCell ⟨p, 1, none⟩ u) lo (w8.setCell ⟨p, 1, none⟩ u).heap.size s v ⟨n.sets, n.links ++ [x, y]⟩ := by
  have hO : Off (fun x => x = g ∨ S x) w2 (w8.setCell ⟨p, 1, none⟩ u) := by
    refine Off.setCell (S := fun x => x = g ∨ S x) (p := ⟨p, 1, none⟩) ?_ (.inr hpb) u
    exact ((h6.off.mono (fun _ hk => .inl hk)).trans (Off.of_ext hx)).news hp.1 (fun b hb => .inl (.inr (put_blk hk hb)))
  refine ⟨hs _ hO, ?_⟩
  have e := linkCells_app n.links [x, y]
  rw [show [x, y].length = 2 from rfl] at e
  rw [e] at ho
  have ho' : w8.ownsRow hd T 4 v (n.links ++ [x, y]).length (cellsOf ((n.links ++ [x, y]).length * 4) (linkCell (n.links ++ [x, y]))) := by
    rw [List.length_append] at ho ⊢
    exact ho
  have ho2 := ownsRow_off ho' (S := One p) (Off.setCell (S := One p) (p := ⟨p, 1, none⟩) (u := u) (Off.refl _ _) (.inl rfl)) (fun b hb hh => by
    have e1 : b = p := hh
    rcases dst_blk hk hS hp hb with h | h
    · have := (hS b h).2; omega
    · omega)
  obtain ⟨gk, h1, h2⟩ := Own.of_owned ho2
  exact h2.row (fun h0 => ⟨by have := (h1 h0).2; omega, h2.lt h0⟩)
theorem box_put {T hd p : Nat} {k v : Value} {n : Nat} {xs : List Value} {S : Nat → Prop} {w2 w7 w8 : World} {cs : List Value} (hb : Boxed w7 p cs) (hk : DstP w2 hd T 4 k n xs S) (hS : ∀ k, S k → hd ≤ k ∧ k < w2.heap.size) (hp : Put hd w7 k w8 v) (hpo : p < hd ∨ w2.heap.size ≤ p) : Boxed w8 p cs :=
  hb.off hp.1 (fun hh => by have := hS p (put_blk hk hh); omega)
set_option maxRecDepth 100000 in
set_option maxHeartbeats 8000000 in
theorem spec_l21Draw (b0 g cn : Nat) (cv : Value) (w : World) (h : Src b0 g cv cn w) : Calls Tryz.prog 52 #[.pointer (some ⟨g, 0, none⟩)] w (DrNetQ b0 g cv cn w) := by
  have Hs := Lib.hid h
  have hg := h.lt
  have hlo := h.lo
  clear h
  obtain ⟨w1, hw1⟩ : ∃ w1 : World, w1 = w.alloc (.cells #[.slice none 0 0, .slice none 0 0] 27) := ⟨_, rfl⟩
  have hd1 : Drw b0 g cv cn w w1 := by rw [hw1]; exact (Drw.refl Hs.out).alloc _
  have hz1 : w1.heap.size = w.heap.size + 1 := by rw [hw1]; simp
  have HB1 := Lib.hid (show Boxed w1 w.heap.size [.slice none 0 0, .slice none 0 0] from by rw [hw1]; exact Boxed.new w [.slice none 0 0, .slice none 0 0] 27)
  have Hd1 := Lib.hid hd1
  clear hd1
  go_enter Tryz.func52, Tryz.ntmps52
  go_wp2_with fail
  rw [← hw1]
  clear hw1
  refine Calls.mono (spec_l18Draw _ _ cn _ w1 Hd1.out.src) ?_
  intro e w2 hD
  have HF := Lib.hid hD.fresh
  obtain ⟨s, k, n, rfl, hd2, ⟨f1, f2, f3⟩, S, hd, i1, i2, hk, hS, hsets⟩ := hD
  obtain ⟨As, cs, rfl, _⟩ := (hsets w2 (Off.refl _ _)).len
  obtain ⟨Ak, ck, rfl⟩ := hk.len
  have hN2 : NetAt w2 w1.heap.size w2.heap.size (.slice As n.sets.length cs) (.slice Ak n.links.length ck) n := ⟨hsets w2 (Off.refl _ _), (hk.row).mono i1 (Nat.le_refl _)⟩
  have Hf := Lib.hid (show Few n from ⟨by omega, by omega, f3⟩)
  have Hk := Lib.hid hk
  have HS := Lib.hid hsets
  have Hd2 := Lib.hid hd2
  have hz2 := hd2.size
  have HN2 := Lib.hid hN2
  have HB2 := Lib.hid (HB1.out.drw hd2 (by omega))
  have HSb := Lib.hid hS
  clear HF hd2 hk hsets hN2 f3 hS
  obtain ⟨w3, hw3⟩ : ∃ w3 : World, w3 = w2.alloc (.cells #[.slice As n.sets.length cs, .slice Ak n.links.length ck] 27) := ⟨_, rfl⟩
  have hx3 : Ext w2 w3 := by rw [hw3]; exact (by repeat (first | exact Ext.refl _ | assumption | refine Ext.alloc ?_ _ | refine Ext.drew ?_ | refine Ext.drewN ?_ _ | refine Ext.setCell ?_ (by first | (simp; done) | (simp; omega) | omega) _ | refine Ext.trans ?_ (by assumption)))
  have hz3 : w3.heap.size = w2.heap.size + 1 := by rw [hw3]; simp
  have Hm3 := Lib.hid (show Boxed w3 w2.heap.size [.slice As n.sets.length cs, .slice Ak n.links.length ck] from by rw [hw3]; exact Boxed.new w2 [.slice As n.sets.length cs, .slice Ak n.links.length ck] 27)
  have m0 := Hm3.out.at0
  have m1 := Hm3.out.at1
  have HB3 := Lib.hid (HB2.out.ext hx3)
  have HN3 := Lib.hid ((HN2.out.ext hx3 (Nat.le_refl _)).wide (Nat.le_refl _) hx3.size)
  have Hd3 := Lib.hid (Hd2.out.ext hx3)
  go_wp2_with fail
  rw [← hw3]
  clear hw3
  go_wp2_with fail
  refine Calls.mono (spec_IsNetwork _ _ n _ ⟨HN3.out.1.mono (Nat.zero_le _) (Nat.le_refl _), HN3.out.2.mono (Nat.zero_le _) (Nat.le_refl _)⟩) ?_
  rintro e w4 ⟨rfl, hx4⟩
  have hz4 := hx4.size
  have HN4 := Lib.hid ((HN3.out.ext hx4 (Nat.le_refl _)).wide (Nat.le_refl _) hx4.size)
  have HB4 := Lib.hid (HB3.out.ext hx4)
  have Hm4 := Lib.hid (Hm3.out.ext hx4)
  have Hd4 := Lib.hid (Hd3.out.ext hx4)
  have He4 := Lib.hid (show Drw b0 g cv cn w3 w4 from (Drw.refl Hd3.out.src).ext hx4)
  clear m0 m1 hx4
  have q0 := HB4.out.at0
  have q1 := HB4.out.at1
  have qf0 := HB4.out.fz 0 (by simp)
  have qf1 := HB4.out.fz 1 (by simp)
  have qg := HB4.out.1
  have m0 := Hm4.out.at0
  have m1 := Hm4.out.at1
  have mg := Hm4.out.1
  by_cases hok : NetOk n
  case neg =>
    rw [B_false hok]
    go_wp2_with fail
    refine bodyPost_ret (v := .agg #[.slice As n.sets.length cs, .slice Ak n.links.length ck]) (by simp [results, Tryz.results52, go_sem, *]) rfl ?_
    exact DrNetQ.fin (Hd1.out.trans Hd4.out) HN4.out (by omega) (Nat.le_refl _) hg Hf.out
  rw [B_true hok]
  clear hok
  by_cases hc1 : 1 < n.sets.length
  case neg =>
    have hci : ¬ (1 : Int) < (n.sets.length : Int) := by omega
    go_wp2_with fail
    refine bodyPost_ret (v := .agg #[.slice As n.sets.length cs, .slice Ak n.links.length ck]) (by simp [results, Tryz.results52, go_sem, *]) rfl ?_
    exact DrNetQ.fin (Hd1.out.trans Hd4.out) HN4.out (by omega) (Nat.le_refl _) hg Hf.out
  have hci : (1 : Int) < (n.sets.length : Int) := by omega
  go_wp2_with fail
  refine Calls.mono (spec_l01Next _ _ cn _ 2 _ Hd4.out.src) ?_
  rintro e w5 ⟨r, rfl, -, hd5⟩
  have hz5 := hd5.size
  have HN5 := Lib.hid ((HN4.out.drw hd5 (by omega) (Nat.le_refl _)).wide (Nat.le_refl _) hz5)
  have HB5 := Lib.hid (HB4.out.drw hd5 (by omega))
  have Hm5 := Lib.hid (Hm4.out.drw hd5 (by omega))
  have Hd5 := Lib.hid (Hd4.out.trans hd5)
  have He5 := Lib.hid (He4.out.trans hd5)
  clear hd5 q0 q1 qf0 qf1 qg m0 m1 mg
  have q0 := HB5.out.at0
  have q1 := HB5.out.at1
  have qf0 := HB5.out.fz 0 (by simp)
  have qf1 := HB5.out.fz 1 (by simp)
  have qg := HB5.out.1
  have m0 := Hm5.out.at0
  have m1 := Hm5.out.at1
  have mg := Hm5.out.1
  by_cases z0 : r = 0
  case neg =>
    have z0' : (r == 0) = false := by simpa using z0
    go_wp2_with fail
    refine bodyPost_ret (v := .agg #[.slice As n.sets.length cs, .slice Ak n.links.length ck]) (by simp [results, Tryz.results52, go_sem, *]) rfl ?_
    exact DrNetQ.fin (Hd1.out.trans Hd5.out) HN5.out (by omega) (Nat.le_refl _) hg Hf.out
  subst z0
  clear q0 q1 qf0 qf1 qg m0 m1 mg
  go_wp2_with fail
  refine Calls.mono (spec_l01Next _ _ cn _ n.sets.length _ Hd5.out.src) ?_
  rintro e w6 ⟨a, rfl, hba, hd6⟩
  have Hd6 := Lib.hid (Hd5.out.trans hd6)
  have He6 := Lib.hid (He5.out.trans hd6)
  have hz6 := hd6.size
  have ha0 : 0 ≤ a := hba.1
  have ha1 := hba.2.1 hci
  clear hd6 hba
  have Wa : IntKind.i64.wrap (a + 1) = a + 1 := IntWalk.i64_in _ (by omega)
  have Wc : IntKind.i64.wrap ((n.sets.length : Int) - 1) = (n.sets.length : Int) - 1 := IntWalk.i64_in _ (by omega)
  go_wp2_with fail
  refine Calls.mono (spec_l01Next _ _ cn _ _ _ Hd6.out.src) ?_
  rintro e w7 ⟨rb, rfl, hbb, hd7⟩
  have Hd7 := Lib.hid (Hd6.out.trans hd7)
  have He7 := Lib.hid (He6.out.trans hd7)
  have hz7 := hd7.size
  have hrb0 : 0 ≤ rb := hbb.1
  have hrb1 : rb ≤ 8 := by
    by_cases h1 : 1 < (n.sets.length : Int) - 1
    · have := hbb.2.1 h1; omega
    · have := hbb.2.2 (by omega); omega
  have HB7 := Lib.hid (HB3.out.drw He7.out (by omega))
  have Hm7 := Lib.hid (Hm3.out.drw He7.out (by omega))
  have W8 : IntKind.i64.wrap (a + 1 + rb) = a + 1 + rb := IntWalk.i64_in _ (by omega)
  clear hd7 hbb
  obtain ⟨b, hbe⟩ : ∃ b : Int, b = (a + 1 + rb) % (n.sets.length : Int) := ⟨_, rfl⟩
  have Hbe := Lib.hid hbe
  clear hbe
  have m0 := Hm7.out.at0
  have m1 := Hm7.out.at1
  have mg := Hm7.out.1
  have mf1 := Hm7.out.fz 1 (by simp)
  have hnl := Hf.out.2.1
  have h12 : 1 < [Value.slice As n.sets.length cs, Value.slice Ak n.links.length ck].length := by simp
  have hz7' : w2.heap.size < w7.heap.size := by omega
  have hgd : g < hd := by omega
  go_upto_region 6 with fail
  go_region_law (first
    | (refine step_append_row rfl (.tmp 36) (.tmp 46) 25 rfl hd 118 4 32 Tryz.underlying25 (by kernel_rfl) (by omega) _ n.links.length 2 _ rfl (((Hk.out.off (Drw.pre hx3 He8.out).off (fun k hk hh => by have e : k = g := hh; have := (HSb.out k hk).1; omega)).ext (show Ext w8 _ from (by repeat (first | exact Ext.refl _ | assumption | refine Ext.alloc ?_ _ | refine Ext.drew ?_ | refine Ext.drewN ?_ _ | refine Ext.setCell ?_ (by first | (simp; done) | (simp; omega) | omega) _ | refine Ext.trans ?_ (by assumption))))).dst) (.inr (by omega)) 0 _ _ (linkCell [⟨a, _, 5, 9⟩, ⟨_, a, r8 - 8, 4⟩]) rfl (boxRow (Boxed.new w8 [.int .i64 a, .int .i64 _, .int .i64 5, .int .i64 9, .int .i64 _, .int .i64 a, .int .i64 (r8 - 8), .int .i64 4] 118) (by omega) (two_links _ _ _ _ _ _ _ _) 0 (Nat.zero_le _)) (fun i _ => two_links_one _ _ _ _ _ _ _ _ i) (by unfold maxLen; omega) (by omega) (by simp; omega) ?_; intro v9 w9 hown9 hput9; obtain ⟨A9, c9, rfl⟩ := ownsRow_len hown9; have hm9 := (box_put (Hm8.out.ext (show Ext w8 _ from (by repeat (first | exact Ext.refl _ | assumption | refine Ext.alloc ?_ _ | refine Ext.drew ?_ | refine Ext.drewN ?_ _ | refine Ext.setCell ?_ (by first | (simp; done) | (simp; omega) | omega) _ | refine Ext.trans ?_ (by assumption))))) Hk.out HSb.out hput9 (.inr (Nat.le_refl _))); have hb9 := (box_put (HB8.out.ext (show Ext w8 _ from (by repeat (first | exact Ext.refl _ | assumption | refine Ext.alloc ?_ _ | refine Ext.drew ?_ | refine Ext.drewN ?_ _ | refine Ext.setCell ?_ (by first | (simp; done) | (simp; omega) | omega) _ | refine Ext.trans ?_ (by assumption))))) Hk.out HSb.out hput9 (.inl (by omega))); have m1 := hm9.at1; have mf1 := hm9.fz 1 h12; have HM9 := Lib.hid (net_two (p := w2.heap.size) (Drw.pre hx3 He8.out) i1 Hk.out HSb.out HS.out (show Ext w8 _ from (by repeat (first | exact Ext.refl _ | assumption | refine Ext.alloc ?_ _ | refine Ext.drew ?_ | refine Ext.drewN ?_ _ | refine Ext.setCell ?_ (by first | (simp; done) | (simp; omega) | omega) _ | refine Ext.trans ?_ (by assumption)))) hput9 hown9 (Nat.le_refl _) (by simp; omega) (.slice A9 (n.links.length + 2) c9)); have Hm9 := Lib.hid (hm9.set 1 (.slice A9 (n.links.length + 2) c9) h12); have HB9 := Lib.hid (hb9.setOther (p := ⟨w2.heap.size, 1, none⟩) (by show w.heap.size ≠ w2.heap.size; omega) (.slice A9 (n.links.length + 2) c9)); have Hd9 := Lib.hid (((Hd8.out.ext (show Ext w8 _ from (by repeat (first | exact Ext.refl _ | assumption | refine Ext.alloc ?_ _ | refine Ext.drew ?_ | refine Ext.drewN ?_ _ | refine Ext.setCell ?_ (by first | (simp; done) | (simp; omega) | omega) _ | refine Ext.trans ?_ (by assumption))))).put (by omega) hput9 (by omega)).setCell (p := ⟨w2.heap.size, 1, none⟩) (by show w1.heap.size ≤ w2.heap.size; omega) (by show g < w2.heap.size; omega) (.slice A9 (n.links.length + 2) c9)); clear hm9 hb9 hown9 hput9)
    | (go_simp; go_at_call 54; refine Calls.mono (spec_l01Next _ _ cn _ 12 _ (Hd7.out.src.ext (by repeat (first | exact Ext.refl _ | assumption | refine Ext.alloc ?_ _ | refine Ext.drew ?_ | refine Ext.drewN ?_ _ | refine Ext.setCell ?_ (by first | (simp; done) | (simp; omega) | omega) _ | refine Ext.trans ?_ (by assumption))))) ?_; rintro e w8 ⟨r8, rfl, ⟨t0, t1, _⟩, hd8⟩; have ht1 := t1 (by omega); have Hd8 := Lib.hid (Hd7.out.trans (Drw.pre (show Ext w7 _ from (by repeat (first | exact Ext.refl _ | assumption | refine Ext.alloc ?_ _ | refine Ext.drew ?_ | refine Ext.drewN ?_ _ | refine Ext.setCell ?_ (by first | (simp; done) | (simp; omega) | omega) _ | refine Ext.trans ?_ (by assumption)))) hd8)); have He8 := Lib.hid (He7.out.trans (Drw.pre (show Ext w7 _ from (by repeat (first | exact Ext.refl _ | assumption | refine Ext.alloc ?_ _ | refine Ext.drew ?_ | refine Ext.drewN ?_ _ | refine Ext.setCell ?_ (by first | (simp; done) | (simp; omega) | omega) _ | refine Ext.trans ?_ (by assumption)))) hd8)); have Hm8 := Lib.hid (Hm3.out.drw He8.out (by omega)); have HB8 := Lib.hid (HB3.out.drw He8.out (by omega)); have m0 := Hm8.out.at0; have m1 := Hm8.out.at1; have mf1 := Hm8.out.fz 1 h12; have mg := Hm8.out.1; have hz8 := hd8.size; have W9 : IntKind.i64.wrap (r8 - 8) = r8 - 8 := IntWalk.i64_in _ (by omega); clear hd8 t1))
  all_goals
    generalize w9.setCell ⟨w2.heap.size, 1, none⟩ (.slice A9 (n.links.length + 2) c9) = w10 at *
    have Hm10 := Lib.hid (show Boxed w10 w2.heap.size [.slice As n.sets.length cs, .slice A9 (n.links.length + 2) c9] from Hm9.out)
    have x0 := Hm10.out.at0
    have x1 := Hm10.out.at1
    have xg := Hm10.out.1
    have q0 := HB9.out.at0
    have q1 := HB9.out.at1
    have qf0 := HB9.out.fz 0 (by simp)
    have qf1 := HB9.out.fz 1 (by simp)
    have qg := HB9.out.1
    go_wp2_with fail
    refine bodyPost_ret (v := .agg #[.slice As n.sets.length cs, .slice A9 (n.links.length + 2) c9]) (by simp [results, Tryz.results52, go_sem, *]) rfl ?_
    exact DrNetQ.fin (Hd1.out.trans Hd9.out) HM9.out (by omega) (Nat.le_refl _) hg ⟨Hf.out.1, by show (n.links ++ [_, _]).length ≤ 8; simp; omega, Hf.out.2.2⟩
end Go.Proofs.YtfmnkojjkjkdeaaGreatDoor

/- Contracts: networks that the layer of solutions draws out of a source. -/
namespace Go.Proofs.YtfmnkojjkjkdeaaGreatDoor
set_option linter.unusedVariables false
set_option linter.unusedSimpArgs false
open Go.RowKit
attribute [local go_sem] cell_onto

/-- spans that are drawn: to be read, from lo on -/
def DrSpQ (b0 g : Nat) (cv : Value) (cn lo : Nat) (w : World) (e : Ending) (w' : World) : Prop :=
  ∃ (v : Value) (l : List Sp), e = .returned v ∧ Drw b0 g cv cn w w' ∧ Spans w' lo w'.heap.size v l
theorem Spans.cap_le {w : World} {lo hi : Nat} {A : Option Addr} {n c : Nat} {l : List Sp} (h : Spans w lo hi (.slice A n c) l) : l.length ≤ c := by
  obtain ⟨hm, A', c', e, hc, hr⟩ := h
  injection e with e1 e2 e3
  omega
theorem spAt_tail (l : List Sp) (i : Nat) : spAt l.tail i = spAt l (i + 1) := by
  unfold spAt
  cases l <;> simp [List.getD]
theorem Spans.tail2 {w : World} {lo hi : Nat} {A : Option Addr} {n c b off : Nat} {l : List Sp} (h : Spans w lo hi (.slice A n c) l) (hA : A = some ⟨b, off, none⟩) (h0 : 0 < l.length) :
    Spans w lo hi (.slice (if c = 1 then some ⟨b, off, none⟩ else some ⟨b, off + 2, none⟩) (l.length - 1) (c - 1)) l.tail := by
  have hcap := h.cap_le
  subst hA
  obtain ⟨hm, A', c', e, hc, hr⟩ := h
  injection e with e1 e2 e3
  subst e3
  obtain ⟨b', off', e4, h1, h2, h3⟩ := hr h0
  rw [← e1] at e4
  injection e4 with e4
  injection e4 with e5 e6
  subst e5 e6
  have hl : l.tail.length = l.length - 1 := by simp
  unfold Spans
  rw [hl]
  by_cases h1c : c = 1
  · rw [if_pos h1c]
    exact ⟨by omega, _, _, rfl, by omega, fun hh => by omega⟩
  · rw [if_neg h1c]
    refine ⟨by omega, _, _, rfl, by omega, fun _ => ⟨b, off + 2, rfl, h1, h2, fun i hi => ?_⟩⟩
    have := h3 (i + 2) (by omega)
    rw [show off + (i + 2) = off + 2 + i by omega] at this
    rw [this]
    unfold spanCell
    rw [spAt_tail, show (i + 2) % 2 = i % 2 by omega, show (i + 2) / 2 = i / 2 + 1 by omega]
theorem rowSpans2 {w : World} {base T : Nat} {v : Value} {l : List Sp} (h : w.ownsRow base T 2 v l.length (cellsOf (l.length * 2) (spanCell l))) : Spans w base w.heap.size v l := by
  obtain ⟨g, h1, ho⟩ := Own.of_owned h
  exact ho.row (fun h0 => ⟨(h1 h0).2, ho.lt h0⟩)
end Go.Proofs.YtfmnkojjkjkdeaaGreatDoor
