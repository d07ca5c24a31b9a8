/- The source of draws in memory: a block with the code, a place and a seed; worlds in which that block alone has turned. No program in sight. -/
import Derived.Test.YtfajmlkiidnhlaaS
namespace Go.Proofs.Ytfajmlkiidnhlaa
set_option linter.unusedVariables false
set_option linter.unusedSimpArgs false
open Go.RowKit

/-- a row of bytes -/
def Bytes (w : World) (lo hi : Nat) (v : Value) (n : Nat) : Prop := n ≤ 4096 ∧ ∃ f : Nat → Int, Row w lo hi 1 v n (fun i => .int .u8 (f i)) ∧ ∀ i, i < n → 0 ≤ f i ∧ f i ≤ 255
theorem Bytes.ext {w w' : World} {lo hi n : Nat} {v : Value} (h : Bytes w lo hi v n) (hx : Ext w w') (hh : hi ≤ w.heap.size) : Bytes w' lo hi v n := by
  obtain ⟨h0, f, h1, h2⟩ := h
  exact ⟨h0, f, h1.ext hx hh, h2⟩
theorem Bytes.off {S : Nat → Prop} {w w' : World} {lo hi n : Nat} {v : Value} (h : Bytes w lo hi v n) (hx : Off S w w') (hs : ∀ k, lo ≤ k → k < hi → ¬ S k) (hh : hi ≤ w.heap.size) : Bytes w' lo hi v n := by
  obtain ⟨h0, f, h1, h2⟩ := h
  exact ⟨h0, f, h1.off hx hs hh, h2⟩
theorem Bytes.len {w : World} {lo hi n : Nat} {v : Value} (h : Bytes w lo hi v n) : ∃ A c, v = .slice A n c ∧ n ≤ c := by
  obtain ⟨h0, f, ⟨_, A, c, e, hc, _⟩, _⟩ := h
  exact ⟨A, c, e, hc⟩
theorem Bytes.at_ {w : World} {lo hi n c i : Nat} {A : Option Addr} (h : Bytes w lo hi (.slice A n c) n) (hi' : i < n) : ∃ b off x, A = some ⟨b, off, none⟩ ∧ b < hi ∧ w.cell? ⟨b, off + i, none⟩ = some (.int .u8 x) ∧ 0 ≤ x ∧ x ≤ 255 := by
  obtain ⟨h0, f, ⟨_, A', c', e, hc, hr⟩, hf⟩ := h
  injection e with e1 e2 e3
  obtain ⟨b, off, hA, h1, h2, h3⟩ := hr (by omega)
  exact ⟨b, off, f i, by rw [e1, hA], h2, h3 i (by omega), hf i hi'⟩

/-- the source of draws -/
structure Src (b0 g : Nat) (cv : Value) (cn : Nat) (w : World) : Prop where
  lo : b0 ≤ g
  code : Bytes w 0 b0 cv cn
  box : ∃ (j : Nat) (seed : Int), Boxed w g [cv, .int .i64 j, .int .i64 seed] ∧ j ≤ cn ∧ 0 ≤ seed ∧ seed ≤ 2147483646
section
variable {b0 g cn : Nat} {cv : Value} {w w' : World}
theorem Src.lt (h : Src b0 g cv cn w) : g < w.heap.size := by
  obtain ⟨j, s, h1, _⟩ := h.box
  exact h1.1
theorem Src.ext (h : Src b0 g cv cn w) (hx : Ext w w') : Src b0 g cv cn w' := by
  have hl := h.lt
  have h0 := h.lo
  obtain ⟨j, s, h1, h2⟩ := h.box
  exact ⟨h.lo, h.code.ext hx (by omega), j, s, h1.ext hx, h2⟩
theorem Src.off {S : Nat → Prop} (h : Src b0 g cv cn w) (hx : Off S w w') (hs : ∀ k, S k → g < k) : Src b0 g cv cn w' := by
  have hl := h.lt
  have h0 := h.lo
  obtain ⟨j, s, h1, h2⟩ := h.box
  exact ⟨h.lo, h.code.off hx (fun k _ hk hh => by have := hs k hh; omega) (by omega), j, s, h1.off hx (fun hh => by have := hs g hh; omega), h2⟩
end
/-- the one block that draws turn -/
def One (g k : Nat) : Prop := k = g
/-- what a draw leaves: its source alone has turned -/
structure Drw (b0 g : Nat) (cv : Value) (cn : Nat) (w w' : World) : Prop where
  off : Off (One g) w w'
  src : Src b0 g cv cn w'
section
variable {b0 g cn : Nat} {cv : Value} {w w' w'' : World}
theorem Drw.refl (h : Src b0 g cv cn w) : Drw b0 g cv cn w w := ⟨Off.refl _ _, h⟩
theorem Drw.trans (h : Drw b0 g cv cn w w') (k : Drw b0 g cv cn w' w'') : Drw b0 g cv cn w w'' := ⟨h.off.trans k.off, k.src⟩
theorem Drw.pre {a : World} (hx : Ext a w) (h : Drw b0 g cv cn w w') : Drw b0 g cv cn a w' := ⟨(Off.of_ext hx).trans h.off, h.src⟩
theorem Drw.ext (h : Drw b0 g cv cn w w') (hx : Ext w' w'') : Drw b0 g cv cn w w'' := ⟨h.off.trans (Off.of_ext hx), h.src.ext hx⟩
theorem Drw.size (h : Drw b0 g cv cn w w') : w.heap.size ≤ w'.heap.size := h.off.size
theorem Drw.alloc (h : Drw b0 g cv cn w w') (o : Obj) : Drw b0 g cv cn w (w'.alloc o) := h.ext ((Ext.refl _).alloc o)
theorem Drw.drew (h : Drw b0 g cv cn w w') : Drw b0 g cv cn w w'.drew := h.ext (Ext.refl _).drew
theorem Drw.drewN (h : Drw b0 g cv cn w w') (n : Nat) : Drw b0 g cv cn w (w'.drewN n) := h.ext ((Ext.refl _).drewN n)
theorem Drw.setCell (h : Drw b0 g cv cn w w') {p : Addr} (hp : w.heap.size ≤ p.block) (hg : g < p.block) (u : Value) : Drw b0 g cv cn w (w'.setCell p u) :=
  ⟨h.off.setCell (.inr hp) u, h.src.off (S := fun k => k = p.block) (Off.setCell (S := fun k => k = p.block) (Off.refl _ _) (.inl rfl) u) (fun k hk => by omega)⟩
theorem Drw.cell (h : Drw b0 g cv cn w w') {b o : Nat} (hb : b < w.heap.size) (hg : b ≠ g) : w'.cell? ⟨b, o, none⟩ = w.cell? ⟨b, o, none⟩ := h.off.cell (p := ⟨b, o, none⟩) hb hg
theorem Drw.frozen (h : Drw b0 g cv cn w w') {b o : Nat} (hb : b < w.heap.size) (hg : b ≠ g) : w'.frozen? ⟨b, o, none⟩ = w.frozen? ⟨b, o, none⟩ := h.off.frozen (p := ⟨b, o, none⟩) hb hg
/-- what lies apart from the source is kept -/
theorem Boxed.drw {b : Nat} {cs : List Value} (h : Boxed w b cs) (hx : Drw b0 g cv cn w w') (hb : b ≠ g) : Boxed w' b cs := h.off hx.off hb
theorem Drw.and_cell {b i : Nat} {c : Value} {r : Prop} (hb : b < w.heap.size) (hg : b ≠ g) (hc : w.cell? ⟨b, i, none⟩ = some c) (hx : Drw b0 g cv cn w w') (hr : r) : w'.cell? ⟨b, i, none⟩ = some c ∧ r := ⟨(hx.cell hb hg).trans hc, hr⟩
/-- once the source is new, nothing old has turned -/
theorem Drw.old {a : World} (h : Drw b0 g cv cn w w') (ha : Ext a w) (hg : a.heap.size ≤ g) : Ext a w' := ha.off h.off (fun k hk hh => by have e : k = g := hh; omega)
end
theorem Off.news {K K1 : Nat → Prop} {a b c : World} (h : Off K a b) (h1 : Off K1 b c) (hk : ∀ k, K1 k → K k ∨ a.heap.size ≤ k) : Off K a c :=
  ⟨h1.os.trans h.os, h1.tape.trans h.tape, h1.output.trans h.output, Nat.le_trans h.size h1.size, fun i hi hs => (h1.block i (Nat.lt_of_lt_of_le hi h.size) (fun hh => by
    rcases hk i hh with e | e
    · exact hs e
    · omega)).trans (h.block i hi hs)⟩
theorem Drw.put {b0 g cn b : Nat} {cv v v' : Value} {w w3 w4 : World} (h : Drw b0 g cv cn w w3) (hg : g < w.heap.size) (hp : Put b w3 v w4 v') (hb : w.heap.size ≤ b) : Drw b0 g cv cn w w4 :=
  ⟨h.off.news hp.1 (fun k hk => .inr (by have := hk.1; omega)), h.src.off hp.1 (fun k hk => by have := hk.1; omega)⟩
/-- a row of the call's own is kept by draws from an older source -/
theorem ownsRow_drw {b0 g cn b n sz : Nat} {e : TypeId} {cv v : Value} {xs : List Value} {w w' : World} (h : w.ownsRow b e sz v n xs) (hx : Drw b0 g cv cn w w') (hg : g < b) : w'.ownsRow b e sz v n xs :=
  ownsRow_off h hx.off (fun k hk hh => by have e1 : k = g := hh; have := (h.lt k hk).1; omega)
/-- numbers in a box -/
theorem box_ints {W : World} {gb : Nat} (l : List Int) (h : Boxed W gb (l.map (Value.int .i64))) (hl : l.length ≤ 4096) : Ints W 0 W.heap.size (.slice (some ⟨gb, 0, none⟩) l.length l.length) l :=
  ⟨by unfold maxLen; omega, _, _, rfl, Nat.le_refl _, fun _ => ⟨gb, 0, rfl, Nat.zero_le _, h.1, fun i hi => by
    have hi' : i < l.length := by omega
    rw [Nat.zero_add]
    refine (h.2 i _ ?_).1
    rw [List.getElem?_map, List.getElem?_eq_getElem hi']
    unfold intCell inAt
    rw [List.getD_eq_getElem?_getD, List.getElem?_eq_getElem hi']
    rfl⟩⟩
theorem box_pick {b0 g cn : Nat} {cv : Value} {W : World} {gb : Nat} (l : List Int) (h : Boxed W gb (l.map (Value.int .i64))) (hl : l.length ≤ 4096) (hg : gb ≠ g) :
    Ints W 0 W.heap.size (.slice (some ⟨gb, 0, none⟩) l.length l.length) l ∧ ∀ w', Drw b0 g cv cn W w' → Ints w' 0 w'.heap.size (.slice (some ⟨gb, 0, none⟩) l.length l.length) l :=
  ⟨box_ints l h hl, fun _ hd => box_ints l (h.drw hd hg) hl⟩
/-- what a draw of spans returns: a row of its own -/
def DrSpans (b0 g : Nat) (cv : Value) (cn T K : Nat) (P : Sp → Prop) (w : World) (e : Ending) (w' : World) : Prop :=
  ∃ v l, e = .returned v ∧ Drw b0 g cv cn w w' ∧ l.length ≤ K ∧ (∀ i, i < l.length → P (spAt l i)) ∧ w'.ownsRow w.heap.size T 2 v l.length (cellsOf (l.length * 2) (spanCell l))
/-- .. of numbers -/
def DrInts (b0 g : Nat) (cv : Value) (cn T : Nat) (P : List Int → Prop) (w : World) (e : Ending) (w' : World) : Prop :=
  ∃ v l, e = .returned v ∧ Drw b0 g cv cn w w' ∧ P l ∧ w'.ownsRow w.heap.size T 1 v l.length (cellsOf (l.length * 1) (intCell l))
/-- what a draw of a number returns -/
def DrNum (b0 g : Nat) (cv : Value) (cn : Nat) (P : Int → Prop) (w : World) (e : Ending) (w' : World) : Prop := ∃ r : Int, e = .returned (.int .i64 r) ∧ P r ∧ Drw b0 g cv cn w w'
/-- a number below n, or 0 -/
def Below' (n r : Int) : Prop := 0 ≤ r ∧ (1 < n → r < n) ∧ (n ≤ 1 → r = 0)
theorem Below'.nat {m q : Nat} (hb : Below' (m : Int) (q : Int)) (h : 0 < m) : q < m := by
  obtain ⟨h0, h1, h2⟩ := hb
  rcases Nat.lt_or_ge 1 m with h3 | h3
  · have := h1 (by omega); omega
  · have := h2 (by omega); omega
end Go.Proofs.Ytfajmlkiidnhlaa
