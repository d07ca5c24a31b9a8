/- Words for memory: worlds that only grow, rows of cells, and the plain data of the networks. No program in sight. -/
import Derived.WalkKit
import Derived.WalkSpells
import Derived.WalkLawsBesides
import Derived.Deep.LoopGhost
import Derived.BigQuiet
import Derived.Lib.Hide
namespace Go.Proofs.YtfmnkojjkjkdeaaDoor
set_option linter.unusedVariables false
set_option linter.unusedSimpArgs false
open Go.RowKit

/-! ### Worlds that only grow -/

/-- 'w'' is 'w' with new blocks: what was there has not turned. -/
def Ext (w w' : World) : Prop := Below w.heap.size w w'
theorem Ext.refl (w : World) : Ext w w := Below.refl _ _
theorem Ext.size {w w' : World} (h : Ext w w') : w.heap.size ≤ w'.heap.size := Below.size h
theorem Ext.trans {a b c : World} (h : Ext a b) (k : Ext b c) : Ext a c := Below.trans h (Below.mono k h.size)
theorem Ext.alloc {a w : World} (h : Ext a w) (o : Obj) : Ext a (w.alloc o) := Below.alloc h h.size o
theorem Ext.drew {a w : World} (h : Ext a w) : Ext a w.drew := Below.drew h
theorem Ext.drewN {a w : World} (h : Ext a w) (n : Nat) : Ext a (w.drewN n) := ⟨h.os, h.tape, h.output, h.size, h.block⟩
theorem Ext.setCell {a w : World} (h : Ext a w) {p : Addr} (hp : a.heap.size ≤ p.block) (u : Value) : Ext a (w.setCell p u) := Below.setCell h hp u
theorem Ext.cell {w w' : World} (h : Ext w w') {p : Addr} (hp : p.block < w.heap.size) : w'.cell? p = w.cell? p := Below.cell h hp
theorem Ext.frozen {w w' : World} (h : Ext w w') {p : Addr} (hp : p.block < w.heap.size) : w'.frozen? p = w.frozen? p := Below.frozen h hp
/-- the walk's two rules for the world behind a call -/
theorem Ext.rules {w w' : World} (h : Ext w w') : (∀ b o, b < w.heap.size → w'.cell? ⟨b, o, none⟩ = w.cell? ⟨b, o, none⟩) ∧ (∀ b o, b < w.heap.size → w'.frozen? ⟨b, o, none⟩ = w.frozen? ⟨b, o, none⟩) :=
  ⟨fun b o h1 => h.cell (p := ⟨b, o, none⟩) h1, fun b o h1 => h.frozen (p := ⟨b, o, none⟩) h1⟩

theorem Ext.and_cell {w w' : World} {g i : Nat} {c : Value} {r : Prop} (hg : g < w.heap.size) (hc : w.cell? ⟨g, i, none⟩ = some c) (hx : Ext w w') (hr : r) : w'.cell? ⟨g, i, none⟩ = some c ∧ r :=
  ⟨(hx.cell (p := ⟨g, i, none⟩) hg).trans hc, hr⟩
/-- two boxes of two cells each, kept -/
theorem Ext.keep22 {w w' : World} {g g' : Nat} {a b c d : Value} (hz : g < w.heap.size) (hz' : g' < w.heap.size) (h0 : w.cell? ⟨g, 0, none⟩ = some a) (h1 : w.cell? ⟨g, 1, none⟩ = some b)
    (h2 : w.cell? ⟨g', 0, none⟩ = some c) (h3 : w.cell? ⟨g', 1, none⟩ = some d) (hx : Ext w w') :
    w'.cell? ⟨g, 0, none⟩ = some a ∧ w'.cell? ⟨g, 1, none⟩ = some b ∧ w'.cell? ⟨g', 0, none⟩ = some c ∧ w'.cell? ⟨g', 1, none⟩ = some d ∧ Ext w w' :=
  ⟨(hx.cell (p := ⟨g, 0, none⟩) hz).trans h0, (hx.cell (p := ⟨g, 1, none⟩) hz).trans h1, (hx.cell (p := ⟨g', 0, none⟩) hz').trans h2, (hx.cell (p := ⟨g', 1, none⟩) hz').trans h3, hx⟩

/-- the worlds that grow out of w, as one function of a letter -/
noncomputable def onto (w x : World) : World := @ite _ (Ext w x) (Classical.propDecidable _) x w
theorem onto_ext (w x : World) : Ext w (onto w x) := by
  unfold onto
  by_cases h : Ext w x
  · rw [if_pos h]; exact h
  · rw [if_neg h]; exact Ext.refl _
theorem onto_of {w x : World} (h : Ext w x) : ∃ y, x = onto w y := ⟨x, by unfold onto; rw [if_pos h]⟩
theorem cell_onto {w x : World} {a : Addr} (h : a.block < w.heap.size) : (onto w x).cell? a = w.cell? a := (onto_ext w x).cell h

/-- A region that draws its order, whose operations only read and whose callees only read or make memory: one walk. -/
theorem wp_region_onto {P : Program} {id : Nat} {Q : Exit → Act → World → Prop} {a : Act} {w : World} {l : List Oper} (hm : P.follows .mixedOrders = true) (hB : Region.lexB .any l.toArray = true)
    (h : wpQuiet P l.toArray (fun w' => ∃ x, w' = onto w x) (fun a' => ∀ w', (∃ x, w' = onto w x) → Q .normal a' w') l a) : (Code.region id l.toArray true).wp P Q a w :=
  wp_region_quiet (C := fun w' => ∃ x, w' = onto w x) hm hB (onto_of ((Ext.refl w).drew)) (by simpa using h)
/-- .. and its end: what stands behind it, in whatever world it left -/
theorem onto_end {P : Program} {ops : Array Oper} {C : World → Prop} {Q : Exit → Act → World → Prop} {a : Act} {w : World} (h : ∀ w1, Ext w w1 → Q .normal a w1) :
    wpQuiet P ops C (fun a' => ∀ w', (∃ x, w' = onto w x) → Q .normal a' w') [] a := by
  refine wpQuiet_nil ?_
  rintro _ ⟨x, rfl⟩
  exact h _ (onto_ext w x)
theorem onto_call {P : Program} {f : FuncId} {args : Array Value} {w x : World} {v : Value}
    (h : Calls P f args (onto w x) fun e w' => e = .returned v ∧ Ext (onto w x) w') : Calls P f args (onto w x) fun e w'' => e = .returned v ∧ ∃ y, w'' = onto w y :=
  h.mono fun _ _ ⟨he, hm⟩ => ⟨he, onto_of ((onto_ext w x).trans hm)⟩

/-! ### The posts of contracts, behind names that the walk doesn't open -/
/-- returns v, the world as it was -/
def RetS (v : Value) (w : World) (e : Ending) (w' : World) : Prop := e = .returned v ∧ w = w'
/-- returns v, the world grown -/
def RetX (v : Value) (w : World) (e : Ending) (w' : World) : Prop := e = .returned v ∧ Ext w w'

theorem onto_callS {P : Program} {f : FuncId} {args : Array Value} {w x : World} {v : Value}
    (h : Calls P f args (onto w x) (RetS v (onto w x))) : Calls P f args (onto w x) fun e w'' => e = .returned v ∧ ∃ y, w'' = onto w y :=
  h.mono fun _ _ ⟨he, hm⟩ => ⟨he, x, hm.symm⟩
theorem onto_callX {P : Program} {f : FuncId} {args : Array Value} {w x : World} {v : Value}
    (h : Calls P f args (onto w x) (RetX v (onto w x))) : Calls P f args (onto w x) fun e w'' => e = .returned v ∧ ∃ y, w'' = onto w y := onto_call h

/-! ### Bools for propositions -/
noncomputable def B (p : Prop) : Bool := @decide p (Classical.propDecidable p)
theorem B_iff {p : Prop} : B p = true ↔ p := by unfold B; simp
theorem B_true {p : Prop} (h : p) : B p = true := B_iff.2 h
theorem B_false {p : Prop} (h : ¬p) : B p = false := by
  cases hb : B p with
  | false => rfl
  | true => exact absurd (B_iff.1 hb) h
theorem B_not {p : Prop} : B p = false ↔ ¬p := ⟨(fun h hp => (by rw [B_true hp] at h; cases h)), B_false⟩
theorem B_eq {b : Bool} {p : Prop} (h : b = true ↔ p) : b = B p := by rw [Bool.eq_iff_iff, B_iff]; exact h
theorem B_congr {p q : Prop} (h : p ↔ q) : B p = B q := by rw [propext h]
theorem ret_bool {a b : Bool} (h : a = b) : Ending.returned (.bool a) = Ending.returned (.bool b) := by rw [h]
theorem ret_int {k : IntKind} {a b : Int} (h : a = b) : Ending.returned (.int k a) = Ending.returned (.int k b) := by rw [h]

theorem onto_callXb {P : Program} {f : FuncId} {args : Array Value} {w x : World} {b b' : Bool} (hb : b = b')
    (h : Calls P f args (onto w x) (RetX (.bool b) (onto w x))) : Calls P f args (onto w x) fun e w'' => e = .returned (.bool b') ∧ ∃ y, w'' = onto w y := by
  subst hb; exact onto_call h
theorem onto_callSb {P : Program} {f : FuncId} {args : Array Value} {w x : World} {b b' : Bool} (hb : b = b')
    (h : Calls P f args (onto w x) (RetS (.bool b) (onto w x))) : Calls P f args (onto w x) fun e w'' => e = .returned (.bool b') ∧ ∃ y, w'' = onto w y := by
  subst hb; exact onto_callS h

/-! ### Rows of cells -/
/-- the slice value v: n elements of sz cells each, whose cells are f, in blocks from lo on and below hi -/
def Row (w : World) (lo hi sz : Nat) (v : Value) (n : Nat) (f : Nat → Value) : Prop :=
  n ≤ maxLen ∧ ∃ A c, v = .slice A n c ∧ n ≤ c ∧ (0 < n → ∃ b off, A = some ⟨b, off, none⟩ ∧ lo ≤ b ∧ b < hi ∧ ∀ i, i < n * sz → w.cell? ⟨b, off + i, none⟩ = some (f i))
theorem Row.ext {w w' : World} {lo hi sz n : Nat} {v : Value} {f : Nat → Value} (h : Row w lo hi sz v n f) (hx : Ext w w') (hh : hi ≤ w.heap.size) : Row w' lo hi sz v n f := by
  obtain ⟨hm, A, c, hv, hc, hr⟩ := h
  refine ⟨hm, A, c, hv, hc, fun hn => ?_⟩
  obtain ⟨b, off, hA, h1, h2, h3⟩ := hr hn
  exact ⟨b, off, hA, h1, h2, fun i hi => (hx.cell (p := ⟨b, off + i, none⟩) (by show b < _; omega)).trans (h3 i hi)⟩
theorem Row.mono {w : World} {lo hi lo' hi' sz n : Nat} {v : Value} {f : Nat → Value} (h : Row w lo hi sz v n f) (h1 : lo' ≤ lo) (h2 : hi ≤ hi') : Row w lo' hi' sz v n f := by
  obtain ⟨hm, A, c, hv, hc, hr⟩ := h
  refine ⟨hm, A, c, hv, hc, fun hn => ?_⟩
  obtain ⟨b, off, hA, h3, h4, h5⟩ := hr hn
  exact ⟨b, off, hA, by omega, by omega, h5⟩

/-- a row that may be written: in one block, b, none of its cells frozen -/
def Own (w : World) (b sz : Nat) (v : Value) (n : Nat) (f : Nat → Value) : Prop :=
  n ≤ maxLen ∧ ∃ A c, v = .slice A n c ∧ n ≤ c ∧ (0 < n → b < w.heap.size ∧ ∃ off, A = some ⟨b, off, none⟩ ∧ ∀ i, i < n * sz → w.cell? ⟨b, off + i, none⟩ = some (f i) ∧ w.frozen? ⟨b, off + i, none⟩ = false)
theorem Own.row {w : World} {b lo hi sz n : Nat} {v : Value} {f : Nat → Value} (h : Own w b sz v n f) (h1 : 0 < n → lo ≤ b ∧ b < hi) : Row w lo hi sz v n f := by
  obtain ⟨hm, A, c, hv, hc, hr⟩ := h
  refine ⟨hm, A, c, hv, hc, fun hn => ?_⟩
  obtain ⟨h2, off, hA, h3⟩ := hr hn
  exact ⟨b, off, hA, (h1 hn).1, (h1 hn).2, fun i hi => (h3 i hi).1⟩

/-- a block's first cells, none frozen: a struct that the call boxed, a variable of its own -/
def Boxed (w : World) (g : Nat) (cs : List Value) : Prop := g < w.heap.size ∧ ∀ i u, cs[i]? = some u → w.cell? ⟨g, i, none⟩ = some u ∧ w.frozen? ⟨g, i, none⟩ = false
theorem Boxed.ext {w w' : World} {g : Nat} {cs : List Value} (h : Boxed w g cs) (hx : Ext w w') : Boxed w' g cs :=
  ⟨Nat.lt_of_lt_of_le h.1 hx.size, fun i u hu => ⟨(hx.cell (p := ⟨g, i, none⟩) h.1).trans (h.2 i u hu).1, (hx.frozen (p := ⟨g, i, none⟩) h.1).trans (h.2 i u hu).2⟩⟩
theorem Boxed.new (w : World) (cs : List Value) (T : TypeId) : Boxed (w.alloc (.cells cs.toArray T)) w.heap.size cs := by
  have hh : (w.alloc (.cells cs.toArray T)).heap[w.heap.size]? = some (.cells cs.toArray T) := by
    show (w.heap.push _)[w.heap.size]? = _
    simp
  refine ⟨by simp, fun i u hu => ⟨?_, ?_⟩⟩
  · unfold World.cell?
    rw [hh]
    simpa using hu
  · unfold World.frozen?
    rw [hh]
    simp
theorem Boxed.at0 {w : World} {g : Nat} {a : Value} {cs : List Value} (h : Boxed w g (a :: cs)) : w.cell? ⟨g, 0, none⟩ = some a := (h.2 0 a rfl).1
theorem Boxed.at1 {w : World} {g : Nat} {a b : Value} {cs : List Value} (h : Boxed w g (a :: b :: cs)) : w.cell? ⟨g, 1, none⟩ = some b := (h.2 1 b rfl).1
theorem Boxed.at2 {w : World} {g : Nat} {a b c : Value} {cs : List Value} (h : Boxed w g (a :: b :: c :: cs)) : w.cell? ⟨g, 2, none⟩ = some c := (h.2 2 c rfl).1
theorem Boxed.at3 {w : World} {g : Nat} {a b c d : Value} {cs : List Value} (h : Boxed w g (a :: b :: c :: d :: cs)) : w.cell? ⟨g, 3, none⟩ = some d := (h.2 3 d rfl).1
theorem Boxed.fz {w : World} {g : Nat} {cs : List Value} (h : Boxed w g cs) (i : Nat) (hi : i < cs.length) : w.frozen? ⟨g, i, none⟩ = false := (h.2 i _ (List.getElem?_eq_getElem hi)).2
theorem Boxed.set {w : World} {g : Nat} {cs : List Value} (h : Boxed w g cs) (j : Nat) (x : Value) (hj : j < cs.length) : Boxed (w.setCell ⟨g, j, none⟩ x) g (cs.set j x) := by
  refine ⟨by simpa [World.setCell] using h.1, fun i u hu => ⟨?_, ?_⟩⟩
  · by_cases e : j = i
    · subst e
      rw [List.getElem?_set_self hj] at hu
      injection hu with hu
      subst hu
      exact World.cell?_setCell_same w ⟨g, j, none⟩ x (h.2 j _ (List.getElem?_eq_getElem hj)).1
    · rw [List.getElem?_set_ne e] at hu
      exact (World.cell?_setCell_other w ⟨g, j, none⟩ ⟨g, i, none⟩ x (fun hh => e (by injection hh))).trans (h.2 i u hu).1
  · have hi : i < cs.length := by
      have := (List.getElem?_eq_some_iff.1 hu).1
      simpa using this
    exact (World.frozen?_setCell w ⟨g, j, none⟩ ⟨g, i, none⟩ x).trans (h.fz i hi)
theorem Boxed.setOther {w : World} {g : Nat} {cs : List Value} (h : Boxed w g cs) {p : Addr} (hp : g ≠ p.block) (u : Value) : Boxed (w.setCell p u) g cs := by
  have hb := Below.heap_setCell w p u g hp
  exact ⟨by simpa [World.setCell] using h.1, fun i x hx => ⟨(World.cell?_of_block (w := w) (a := ⟨g, i, none⟩) hb).trans (h.2 i x hx).1, (World.frozen?_of_block (w := w) (a := ⟨g, i, none⟩) hb).trans (h.2 i x hx).2⟩⟩

/-- a block of the call's own: N cells, told by f, none frozen -/
def Blk (w : World) (g N : Nat) (f : Nat → Value) : Prop := g < w.heap.size ∧ ∀ i, i < N → w.cell? ⟨g, i, none⟩ = some (f i) ∧ w.frozen? ⟨g, i, none⟩ = false
theorem Blk.ext {w w' : World} {g N : Nat} {f : Nat → Value} (h : Blk w g N f) (hx : Ext w w') : Blk w' g N f :=
  ⟨Nat.lt_of_lt_of_le h.1 hx.size, fun i hi => ⟨(hx.cell (p := ⟨g, i, none⟩) h.1).trans (h.2 i hi).1, (hx.frozen (p := ⟨g, i, none⟩) h.1).trans (h.2 i hi).2⟩⟩
theorem Blk.set {w : World} {g N : Nat} {f : Nat → Value} (h : Blk w g N f) (j : Nat) (u : Value) (hj : j < N) : Blk (w.setCell ⟨g, j, none⟩ u) g N (fun i => if i = j then u else f i) := by
  refine ⟨by simpa [World.setCell] using h.1, fun i hi => ⟨?_, ?_⟩⟩
  · by_cases e : i = j
    · subst e
      simp only [if_true]
      exact World.cell?_setCell_same w ⟨g, i, none⟩ u (h.2 i hi).1
    · show _ = some (if i = j then u else f i)
      rw [if_neg e]
      exact (World.cell?_setCell_other w ⟨g, j, none⟩ ⟨g, i, none⟩ u (fun hh => e (by injection hh with _ h2; exact h2.symm))).trans (h.2 i hi).1
  · exact (World.frozen?_setCell w ⟨g, j, none⟩ ⟨g, i, none⟩ u).trans (h.2 i hi).2
theorem Blk.setOther {w : World} {g N : Nat} {f : Nat → Value} (h : Blk w g N f) {p : Addr} (hp : g ≠ p.block) (u : Value) : Blk (w.setCell p u) g N f := by
  have hb := Below.heap_setCell w p u g hp
  refine ⟨by simpa [World.setCell] using h.1, fun i hi => ⟨?_, ?_⟩⟩
  · exact (World.cell?_of_block (w := w) (a := ⟨g, i, none⟩) hb).trans (h.2 i hi).1
  · exact (World.frozen?_of_block (w := w) (a := ⟨g, i, none⟩) hb).trans (h.2 i hi).2
theorem Blk.own {w : World} {g N n sz c : Nat} {f f' : Nat → Value} (h : Blk w g N f) (hN : n * sz ≤ N) (hn : n ≤ maxLen) (hc : n ≤ c) (hf : ∀ i, i < n * sz → f i = f' i) :
    Own w g sz (.slice (some ⟨g, 0, none⟩) n c) n f' :=
  ⟨hn, _, _, rfl, hc, fun _ => ⟨h.1, 0, rfl, fun i hi => by rw [Nat.zero_add, ← hf i hi]; exact h.2 i (by omega)⟩⟩

/-- 'make([]T, n)': a new block of n elements -/
theorem wpList_make_blk {P : Program} (w : World) {ops : Array Oper} {rest : List Oper} {o : Oper} {a : Act} {Q : Exit → Act → World → Prop}
    (hg : o.guard = none) (l c : Operand) (t : TypeId) (hop : o.op = Op.makeSlice t l c) (e : TypeId) (size bytes : Nat) (h1 : P.underlying t = some (.slice e))
    (h2 : (P.info? e).map (fun i => (i.zero.isSome, i.size, i.bytes)) = some (true, size, bytes)) (n : Nat) (hl : a.eval l = .int .i64 n) (hc : a.eval c = .int .i64 n)
    (hb : bytes * n ≤ 281474976710656) (hn : n ≤ maxLen)
    (hK : ∀ w' f, Ext w w' → Blk w' w.heap.size (n * size) f → wpList P ops Q rest (a.put o.dst (.slice (some ⟨w.heap.size, 0, none⟩) n n)) w') : wpList P ops Q (o :: rest) a w := by
  obtain ⟨i, hi, hzz⟩ := Option.map_eq_some_iff.1 h2
  simp only [Prod.mk.injEq] at hzz
  obtain ⟨z1, z2, z3⟩ := hzz
  obtain ⟨z, hz⟩ := Option.isSome_iff_exists.1 z1
  have hb' : (i.bytes : Int) * (n : Int) ≤ 281474976710656 := by
    have h : ((i.bytes * n : Nat) : Int) ≤ 281474976710656 := by rw [z3]; omega
    rwa [Int.natCast_mul] at h
  have hn' : (n : Int) ≤ 9223372036854775807 := by unfold maxLen at hn; omega
  have hr := run_make (P := P) w t e i z h1 hi hz .i64 .i64 n n (by omega) (by omega) hb' hn'
  simp only [Int.toNat_natCast] at hr
  refine wpList_plain hg fun K hK' => ?_
  unfold Oper.wp
  simp [execOp, hop, hl, hc, hr, Result.andThen]
  have hh : (w.alloc (.cells (madeCells z.cells (n * i.size)) e)).heap[w.heap.size]? = some (.cells (madeCells z.cells (n * i.size)) e) := by
    show (w.heap.push _)[w.heap.size]? = _
    simp
  refine hK' _ _ (hK _ (fun j => (madeCells z.cells (n * i.size))[j]!) ((Ext.refl w).alloc _) ⟨by simp, fun j hj => ⟨?_, ?_⟩⟩)
  · unfold World.cell?
    rw [hh]
    have hs : j < (madeCells z.cells (n * i.size)).size := by rw [size_madeCells, z2]; exact hj
    simp [hs]
  · unfold World.frozen?
    rw [hh]
    simp

/-- append of one element that lies in a box of its own ('append(out, x)'), onto a row of the call's own -/
theorem wpList_append_box {P : Program} (w : World) {ops : Array Oper} {rest : List Oper} {o : Oper} {a : Act} {Q : Exit → Act → World → Prop} (hgd : o.guard = none) (s x : Operand) (t : TypeId)
    (ho : o.op = .call { callee := .builtin .append, args := #[s, x], argTypes := #[t, t] }) (base : Nat) (e : TypeId) (size bytes : Nat) (ht : P.underlying t = some (.slice e))
    (hi : (P.info? e).map (fun i => (i.zero.map (·.cells.size), i.size, i.bytes)) = some (some size, size, bytes)) (hsz : 0 < size)
    (v : Value) (n : Nat) (xs : List Value) (hs : a.eval s = v) (hown : w.ownsRow base e size v n xs) (g : Nat) (news : List Value) (hx : a.eval x = .slice (some ⟨g, 0, none⟩) 1 1)
    (hb : Boxed w g news) (hl : news.length = size) (h1 : ∀ u ∈ news, u.oneCell' = true) (h63 : n + 1 ≤ maxLen) (hbytes : (n + 1) * bytes ≤ 140737488355328) (hbase : base ≤ w.heap.size)
    (h : ∀ v' w', w'.ownsRow base e size v' (n + 1) (xs ++ news) → w.grownBy w' v.ownBlock → wpList P ops Q rest (a.put o.dst v') w') : wpList P ops Q (o :: rest) a w := by
  obtain ⟨i, hi', hzz⟩ := Option.map_eq_some_iff.1 hi
  simp only [Prod.mk.injEq] at hzz
  obtain ⟨z1, z2, z3⟩ := hzz
  obtain ⟨z, hz, hzc⟩ := Option.map_eq_some_iff.1 z1
  exact wpList_append_own w hgd s x t ho base e i z size bytes ht hi' hz z2 z3 hzc hsz v n xs hs hown ⟨g, 0, none⟩ 1 1 news hx (by rw [hl, Nat.one_mul])
    (fun j u hu => by rw [Addr.add_lit, Nat.zero_add]; exact (hb.2 j u hu).1) h1 h63 hbytes hbase (fun v' w' h2 h3 _ => h v' w' h2 h3)
/-- an owned row, by its block -/
theorem Own.of_row {w : World} {base n sz : Nat} {e : TypeId} {v : Value} {xs : List Value} {f : Nat → Value} (h : w.ownsRow base e sz v n xs) (hf : ∀ i, i < n * sz → xs[i]? = some (f i)) :
    ∃ g, (0 < n → base ≤ g) ∧ Own w g sz v n f := by
  obtain ⟨hlen, hv⟩ := h
  rcases hv with ⟨rfl, rfl⟩ | ⟨g, cap, cur, rfl, hb, hh, hnc, hcm, hcs, ht⟩
  · exact ⟨base, fun hn => absurd hn (by omega), Nat.zero_le _, none, 0, rfl, Nat.le_refl _, fun hn => absurd hn (by omega)⟩
  · have hlt : g < w.heap.size := by
      rcases Nat.lt_or_ge g w.heap.size with hlt | hge
      · exact hlt
      · rw [Array.getElem?_eq_none hge] at hh; cases hh
    refine ⟨g, fun _ => hb, by omega, _, cap, rfl, hnc, fun hn => ⟨hlt, 0, rfl, fun i hi => ⟨?_, ?_⟩⟩⟩
    · have h2 := hf i hi
      rw [← ht, List.getElem?_take_of_lt hi] at h2
      unfold World.cell?
      rw [hh]
      simpa using h2
    · unfold World.frozen?
      rw [hh]
      simp
theorem Ext.grown {a w w' : World} {base : Nat} {e : TypeId} {sz n : Nat} {v : Value} {xs : List Value} (h : Ext a w) (hg : w.grownBy w' v.ownBlock) (ho : w.ownsRow base e sz v n xs) (hb : a.heap.size ≤ base) : Ext a w' :=
  Below.grown h hg h.size (fun k hk => Nat.le_trans hb (ho.lt k hk).1)
theorem Boxed.grown {w w' : World} {g base : Nat} {cs : List Value} {e : TypeId} {sz n : Nat} {v : Value} {xs : List Value} (h : Boxed w g cs) (hg : w.grownBy w' v.ownBlock) (ho : w.ownsRow base e sz v n xs) (hb : g < base) : Boxed w' g cs := by
  have hbl := hg.block g h.1 (fun hh => by have := (ho.lt g hh.symm).1; omega)
  exact ⟨Nat.lt_of_lt_of_le h.1 hg.size, fun i u hu => ⟨(World.cell?_of_block (w := w) (a := ⟨g, i, none⟩) hbl).trans (h.2 i u hu).1, (World.frozen?_of_block (w := w) (a := ⟨g, i, none⟩) hbl).trans (h.2 i u hu).2⟩⟩
theorem row_ext {w w' : World} {base sz n : Nat} {e : TypeId} {v : Value} {xs : List Value} (h : w.ownsRow base e sz v n xs) (hx : Ext w w') : w'.ownsRow base e sz v n xs := by
  obtain ⟨h1, h2⟩ := h
  refine ⟨h1, ?_⟩
  rcases h2 with h2 | ⟨g, cap, cur, hv, hg, hh, r⟩
  · exact .inl h2
  · have hlt : g < w.heap.size := by
      rcases Nat.lt_or_ge g w.heap.size with hlt | hge
      · exact hlt
      · rw [Array.getElem?_eq_none hge] at hh; cases hh
    exact .inr ⟨g, cap, cur, hv, hg, (hx.block g hlt).trans hh, r⟩
theorem nil_row (w : World) (base : Nat) (e : TypeId) (sz : Nat) : w.ownsRow base e sz (.slice none 0 0) 0 [] := World.ownsRow_nil w base e sz

/-! ### The plain data -/
structure Sp where
  fr : Int
  to : Int
structure Lk where
  be : Int
  af : Int
  le : Int
  mo : Int
structure Net where
  sets : List (List Sp)
  links : List Lk

def spAt (l : List Sp) (i : Nat) : Sp := l.getD i ⟨0, 0⟩
def lkAt (l : List Lk) (i : Nat) : Lk := l.getD i ⟨0, 0, 0, 0⟩
def setAt (l : List (List Sp)) (i : Nat) : List Sp := l.getD i []
def inAt (l : List Int) (i : Nat) : Int := l.getD i 0

def spanCell (l : List Sp) (i : Nat) : Value := if i % 2 = 0 then .int .i64 (spAt l (i / 2)).fr else .int .i64 (spAt l (i / 2)).to
def linkCell (l : List Lk) (i : Nat) : Value :=
  if i % 4 = 0 then .int .i64 (lkAt l (i / 4)).be else if i % 4 = 1 then .int .i64 (lkAt l (i / 4)).af else if i % 4 = 2 then .int .i64 (lkAt l (i / 4)).le else .int .i64 (lkAt l (i / 4)).mo
def intCell (l : List Int) (i : Nat) : Value := .int .i64 (inAt l i)

def Spans (w : World) (lo hi : Nat) (v : Value) (l : List Sp) : Prop := Row w lo hi 2 v l.length (spanCell l)
def Links (w : World) (lo hi : Nat) (v : Value) (l : List Lk) : Prop := Row w lo hi 4 v l.length (linkCell l)
def Ints (w : World) (lo hi : Nat) (v : Value) (l : List Int) : Prop := Row w lo hi 1 v l.length (intCell l)
def Sets (w : World) (lo hi : Nat) (v : Value) (l : List (List Sp)) : Prop :=
  ∃ f : Nat → Value, Row w lo hi 1 v l.length f ∧ ∀ i, i < l.length → Spans w lo hi (f i) (setAt l i)
def NetR (w : World) (lo hi : Nat) (v : Value) (n : Net) : Prop := ∃ s k, v = .agg #[s, k] ∧ Sets w lo hi s n.sets ∧ Links w lo hi k n.links
section
variable {w w' : World} {lo hi lo' hi' : Nat} {v : Value}
theorem Spans.ext {l : List Sp} (h : Spans w lo hi v l) (hx : Ext w w') (hh : hi ≤ w.heap.size) : Spans w' lo hi v l := Row.ext h hx hh
theorem Links.ext {l : List Lk} (h : Links w lo hi v l) (hx : Ext w w') (hh : hi ≤ w.heap.size) : Links w' lo hi v l := Row.ext h hx hh
theorem Ints.ext {l : List Int} (h : Ints w lo hi v l) (hx : Ext w w') (hh : hi ≤ w.heap.size) : Ints w' lo hi v l := Row.ext h hx hh
theorem Sets.ext {l : List (List Sp)} (h : Sets w lo hi v l) (hx : Ext w w') (hh : hi ≤ w.heap.size) : Sets w' lo hi v l := by
  obtain ⟨f, h1, h2⟩ := h
  exact ⟨f, h1.ext hx hh, fun i hi => (h2 i hi).ext hx hh⟩
theorem NetR.ext {n : Net} (h : NetR w lo hi v n) (hx : Ext w w') (hh : hi ≤ w.heap.size) : NetR w' lo hi v n := by
  obtain ⟨s, k, e, h1, h2⟩ := h
  exact ⟨s, k, e, h1.ext hx hh, h2.ext hx hh⟩
theorem Spans.mono {l : List Sp} (h : Spans w lo hi v l) (h1 : lo' ≤ lo) (h2 : hi ≤ hi') : Spans w lo' hi' v l := Row.mono h h1 h2
theorem Links.mono {l : List Lk} (h : Links w lo hi v l) (h1 : lo' ≤ lo) (h2 : hi ≤ hi') : Links w lo' hi' v l := Row.mono h h1 h2
theorem Ints.mono {l : List Int} (h : Ints w lo hi v l) (h1 : lo' ≤ lo) (h2 : hi ≤ hi') : Ints w lo' hi' v l := Row.mono h h1 h2
theorem Sets.mono {l : List (List Sp)} (h : Sets w lo hi v l) (h1 : lo' ≤ lo) (h2 : hi ≤ hi') : Sets w lo' hi' v l := by
  obtain ⟨f, h3, h4⟩ := h
  exact ⟨f, h3.mono h1 h2, fun i hi => (h4 i hi).mono h1 h2⟩
theorem NetR.mono {n : Net} (h : NetR w lo hi v n) (h1 : lo' ≤ lo) (h2 : hi ≤ hi') : NetR w lo' hi' v n := by
  obtain ⟨s, k, e, h3, h4⟩ := h
  exact ⟨s, k, e, h3.mono h1 h2, h4.mono h1 h2⟩

theorem Spans.up {l : List Sp} (h : Spans w 0 w.heap.size v l) (hx : Ext w w') : Spans w' 0 w'.heap.size v l := (h.ext hx (Nat.le_refl _)).mono (Nat.le_refl _) hx.size
theorem Links.up {l : List Lk} (h : Links w 0 w.heap.size v l) (hx : Ext w w') : Links w' 0 w'.heap.size v l := (h.ext hx (Nat.le_refl _)).mono (Nat.le_refl _) hx.size
theorem Ints.up {l : List Int} (h : Ints w 0 w.heap.size v l) (hx : Ext w w') : Ints w' 0 w'.heap.size v l := (h.ext hx (Nat.le_refl _)).mono (Nat.le_refl _) hx.size
theorem Sets.up {l : List (List Sp)} (h : Sets w 0 w.heap.size v l) (hx : Ext w w') : Sets w' 0 w'.heap.size v l := (h.ext hx (Nat.le_refl _)).mono (Nat.le_refl _) hx.size
/-- a network in memory, by its two slices -/
def NetIn (w : World) (s k : Value) (n : Net) : Prop := Sets w 0 w.heap.size s n.sets ∧ Links w 0 w.heap.size k n.links
theorem NetIn.up {s k : Value} {n : Net} (h : NetIn w s k n) (hx : Ext w w') : NetIn w' s k n := ⟨h.1.up hx, h.2.up hx⟩

/-- what a walk wants of one element -/
theorem Spans.len {l : List Sp} (h : Spans w lo hi v l) : ∃ A c, v = .slice A l.length c ∧ l.length ≤ 9223372036854775807 ∧ l.length ≤ c := by
  obtain ⟨hn, A, c, e, hc, _⟩ := h
  exact ⟨A, c, e, by unfold maxLen at hn; omega, hc⟩
theorem Links.len {l : List Lk} (h : Links w lo hi v l) : ∃ A c, v = .slice A l.length c ∧ l.length ≤ 9223372036854775807 ∧ l.length ≤ c := by
  obtain ⟨hn, A, c, e, hc, _⟩ := h
  exact ⟨A, c, e, by unfold maxLen at hn; omega, hc⟩
theorem Ints.len {l : List Int} (h : Ints w lo hi v l) : ∃ A c, v = .slice A l.length c ∧ l.length ≤ 9223372036854775807 ∧ l.length ≤ c := by
  obtain ⟨hn, A, c, e, hc, _⟩ := h
  exact ⟨A, c, e, by unfold maxLen at hn; omega, hc⟩
theorem Sets.len {l : List (List Sp)} (h : Sets w lo hi v l) : ∃ A c, v = .slice A l.length c ∧ l.length ≤ 9223372036854775807 ∧ l.length ≤ c := by
  obtain ⟨_, ⟨hn, A, c, e, hc, _⟩, _⟩ := h
  exact ⟨A, c, e, by unfold maxLen at hn; omega, hc⟩

theorem Spans.at_ {A : Option Addr} {c : Nat} {l : List Sp} {m i : Nat} (h : Spans w lo hi (.slice A m c) l) (hi' : i < l.length) :
    ∃ b off, A = some ⟨b, off, none⟩ ∧ lo ≤ b ∧ b < hi ∧ w.cell? ⟨b, off + i * 2, none⟩ = some (.int .i64 (spAt l i).fr) ∧ w.cell? ⟨b, off + i * 2 + 1, none⟩ = some (.int .i64 (spAt l i).to) := by
  obtain ⟨hn, A', c', e, hc, hr⟩ := h
  injection e with e1 e2 e3
  obtain ⟨b, off, hA, h1, h2, h3⟩ := hr (by omega)
  refine ⟨b, off, by rw [e1, hA], h1, h2, ?_, ?_⟩
  · rw [h3 (i * 2) (by omega)]; unfold spanCell; rw [if_pos (by omega), show i * 2 / 2 = i from by omega]
  · rw [Nat.add_assoc, h3 (i * 2 + 1) (by omega)]; unfold spanCell; rw [if_neg (by omega), show (i * 2 + 1) / 2 = i from by omega]
theorem Links.at_ {A : Option Addr} {c : Nat} {l : List Lk} {m i : Nat} (h : Links w lo hi (.slice A m c) l) (hi' : i < l.length) :
    ∃ b off, A = some ⟨b, off, none⟩ ∧ lo ≤ b ∧ b < hi ∧ w.cell? ⟨b, off + i * 4, none⟩ = some (.int .i64 (lkAt l i).be) ∧ w.cell? ⟨b, off + i * 4 + 1, none⟩ = some (.int .i64 (lkAt l i).af) ∧
      w.cell? ⟨b, off + i * 4 + 2, none⟩ = some (.int .i64 (lkAt l i).le) ∧ w.cell? ⟨b, off + i * 4 + 3, none⟩ = some (.int .i64 (lkAt l i).mo) := by
  obtain ⟨hn, A', c', e, hc, hr⟩ := h
  injection e with e1 e2 e3
  obtain ⟨b, off, hA, h1, h2, h3⟩ := hr (by omega)
  refine ⟨b, off, by rw [e1, hA], h1, h2, ?_, ?_, ?_, ?_⟩
  · rw [h3 (i * 4) (by omega)]; unfold linkCell; rw [if_pos (by omega), show i * 4 / 4 = i from by omega]
  · rw [Nat.add_assoc, h3 (i * 4 + 1) (by omega)]; unfold linkCell; rw [if_neg (by omega), if_pos (by omega), show (i * 4 + 1) / 4 = i from by omega]
  · rw [Nat.add_assoc, h3 (i * 4 + 2) (by omega)]; unfold linkCell; rw [if_neg (by omega), if_neg (by omega), if_pos (by omega), show (i * 4 + 2) / 4 = i from by omega]
  · rw [Nat.add_assoc, h3 (i * 4 + 3) (by omega)]; unfold linkCell; rw [if_neg (by omega), if_neg (by omega), if_neg (by omega), show (i * 4 + 3) / 4 = i from by omega]
theorem Ints.at_ {A : Option Addr} {c : Nat} {l : List Int} {m i : Nat} (h : Ints w lo hi (.slice A m c) l) (hi' : i < l.length) :
    ∃ b off, A = some ⟨b, off, none⟩ ∧ lo ≤ b ∧ b < hi ∧ w.cell? ⟨b, off + i, none⟩ = some (.int .i64 (inAt l i)) := by
  obtain ⟨hn, A', c', e, hc, hr⟩ := h
  injection e with e1 e2 e3
  obtain ⟨b, off, hA, h1, h2, h3⟩ := hr (by omega)
  exact ⟨b, off, by rw [e1, hA], h1, h2, h3 i (by omega)⟩
theorem Sets.at_ {A : Option Addr} {c : Nat} {l : List (List Sp)} {m i : Nat} (h : Sets w lo hi (.slice A m c) l) (hi' : i < l.length) :
    ∃ b off u, A = some ⟨b, off, none⟩ ∧ lo ≤ b ∧ b < hi ∧ w.cell? ⟨b, off + i, none⟩ = some u ∧ Spans w lo hi u (setAt l i) := by
  obtain ⟨f, ⟨hn, A', c', e, hc, hr⟩, hf⟩ := h
  injection e with e1 e2 e3
  obtain ⟨b, off, hA, h1, h2, h3⟩ := hr (by omega)
  exact ⟨b, off, f i, by rw [e1, hA], h1, h2, h3 i (by omega), hf i hi'⟩
end

/-! ### Data in memory of the call's own -/
theorem Own.lt {w : World} {b sz n : Nat} {v : Value} {f : Nat → Value} (h : Own w b sz v n f) (hn : 0 < n) : b < w.heap.size := by
  obtain ⟨_, A, c, _, _, hr⟩ := h
  exact (hr hn).1
theorem Own.any {w : World} {b sz n : Nat} {v : Value} {f : Nat → Value} (h : Own w b sz v n f) (hn : ¬ 0 < n) (b' : Nat) : Own w b' sz v n f := by
  obtain ⟨hm, A, c, e, hc, _⟩ := h
  exact ⟨hm, A, c, e, hc, fun h0 => absurd h0 hn⟩
theorem Own.ext {w w' : World} {b sz n : Nat} {v : Value} {f : Nat → Value} (h : Own w b sz v n f) (hx : Ext w w') : Own w' b sz v n f := by
  obtain ⟨hm, A, c, hv, hc, hr⟩ := h
  refine ⟨hm, A, c, hv, hc, fun hn => ?_⟩
  obtain ⟨hb, off, hA, h3⟩ := hr hn
  exact ⟨Nat.lt_of_lt_of_le hb hx.size, off, hA, fun i hi => ⟨(hx.cell (p := ⟨b, off + i, none⟩) hb).trans (h3 i hi).1, (hx.frozen (p := ⟨b, off + i, none⟩) hb).trans (h3 i hi).2⟩⟩
theorem Own.setOther {w : World} {b sz n : Nat} {v : Value} {f : Nat → Value} (h : Own w b sz v n f) {p : Addr} (hp : 0 < n → b ≠ p.block) (u : Value) : Own (w.setCell p u) b sz v n f := by
  obtain ⟨hm, A, c, hv, hc, hr⟩ := h
  refine ⟨hm, A, c, hv, hc, fun hn => ?_⟩
  obtain ⟨hb, off, hA, h3⟩ := hr hn
  have hbl := Below.heap_setCell w p u b (hp hn)
  exact ⟨by simpa [World.setCell] using hb, off, hA, fun i hi => ⟨(World.cell?_of_block (w := w) (a := ⟨b, off + i, none⟩) hbl).trans (h3 i hi).1, (World.frozen?_of_block (w := w) (a := ⟨b, off + i, none⟩) hbl).trans (h3 i hi).2⟩⟩
/-- a slice of slices of spans, each in a block by itself -/
def OwnSets (w : World) (lo hi : Nat) (v : Value) (l : List (List Sp)) : Prop :=
  ∃ (g0 : Nat) (f : Nat → Value) (g : Nat → Nat), Own w g0 1 v l.length f ∧ (0 < l.length → lo ≤ g0 ∧ g0 < hi) ∧
    (∀ i, i < l.length → Own w (g i) 2 (f i) (setAt l i).length (spanCell (setAt l i)) ∧ (0 < (setAt l i).length → lo ≤ g i ∧ g i < hi ∧ g i ≠ g0)) ∧
    (∀ i j, i < l.length → j < l.length → i ≠ j → 0 < (setAt l i).length → 0 < (setAt l j).length → g i ≠ g j)
def OwnNet (w : World) (lo hi : Nat) (v : Value) (n : Net) : Prop :=
  ∃ s k a b gk, v = .agg #[s, k] ∧ lo ≤ a ∧ b ≤ hi ∧ OwnSets w a b s n.sets ∧ Own w gk 4 k n.links.length (linkCell n.links) ∧ (0 < n.links.length → lo ≤ gk ∧ gk < hi ∧ ¬ (a ≤ gk ∧ gk < b))
theorem OwnSets.ext {w w' : World} {lo hi : Nat} {v : Value} {l : List (List Sp)} (h : OwnSets w lo hi v l) (hx : Ext w w') : OwnSets w' lo hi v l := by
  obtain ⟨g0, f, g, h1, h2, h3, h4⟩ := h
  exact ⟨g0, f, g, h1.ext hx, h2, fun i hi => ⟨(h3 i hi).1.ext hx, (h3 i hi).2⟩, h4⟩
theorem OwnNet.ext {w w' : World} {lo hi : Nat} {v : Value} {n : Net} (h : OwnNet w lo hi v n) (hx : Ext w w') : OwnNet w' lo hi v n := by
  obtain ⟨s, k, a, b, gk, e, h1, h2, h3, h4, h5⟩ := h
  exact ⟨s, k, a, b, gk, e, h1, h2, h3.ext hx, h4.ext hx, h5⟩
theorem OwnSets.setOther {w : World} {lo hi : Nat} {v : Value} {l : List (List Sp)} (h : OwnSets w lo hi v l) {p : Addr} (hp : p.block < lo ∨ hi ≤ p.block) (u : Value) : OwnSets (w.setCell p u) lo hi v l := by
  obtain ⟨g0, f, g, h1, h2, h3, h4⟩ := h
  exact ⟨g0, f, g, h1.setOther (fun hn => by have := h2 hn; omega) u, h2, fun i hi => ⟨(h3 i hi).1.setOther (fun hn => by have := (h3 i hi).2 hn; omega) u, (h3 i hi).2⟩, h4⟩
theorem OwnSets.len {w : World} {lo hi : Nat} {v : Value} {l : List (List Sp)} (h : OwnSets w lo hi v l) : ∃ A c, v = .slice A l.length c := by
  obtain ⟨g0, f, g, ⟨_, A, c, e, _⟩, _⟩ := h
  exact ⟨A, c, e⟩
theorem Own.len {w : World} {b sz n : Nat} {v : Value} {f : Nat → Value} (h : Own w b sz v n f) : ∃ A c, v = .slice A n c := by
  obtain ⟨_, A, c, e, _⟩ := h
  exact ⟨A, c, e⟩
theorem OwnSets.sets {w : World} {lo hi : Nat} {v : Value} {l : List (List Sp)} (h : OwnSets w lo hi v l) : Sets w lo hi v l := by
  obtain ⟨g0, f, g, h1, h2, h3, h4⟩ := h
  exact ⟨f, h1.row h2, fun i hi => (h3 i hi).1.row (fun hn => ⟨((h3 i hi).2 hn).1, ((h3 i hi).2 hn).2.1⟩)⟩
theorem OwnNet.net {w : World} {lo hi : Nat} {v : Value} {n : Net} (h : OwnNet w lo hi v n) : NetR w lo hi v n := by
  obtain ⟨s, k, a, b, gk, e, h1, h2, h3, h4, h5⟩ := h
  exact ⟨s, k, e, h3.sets.mono h1 h2, h4.row (fun hn => ⟨(h5 hn).1, (h5 hn).2.1⟩)⟩

theorem NetR.netIn {w : World} {lo : Nat} {s k : Value} {n : Net} (h : NetR w lo w.heap.size (.agg #[s, k]) n) : NetIn w s k n := by
  obtain ⟨s', k', e, h1, h2⟩ := h
  injection e with e
  injection e with e
  injection e with e1 e2
  injection e2 with e2 _
  subst e1 e2
  exact ⟨h1.mono (Nat.zero_le _) (Nat.le_refl _), h2.mono (Nat.zero_le _) (Nat.le_refl _)⟩
theorem NetR.parts {w : World} {lo hi : Nat} {s k : Value} {n : Net} (h : NetR w lo hi (.agg #[s, k]) n) : Sets w lo hi s n.sets ∧ Links w lo hi k n.links := by
  obtain ⟨s', k', e, h1, h2⟩ := h
  injection e with e
  injection e with e
  injection e with e1 e2
  injection e2 with e2 _
  subst e1 e2
  exact ⟨h1, h2⟩

/-! ### A world in which some blocks have turned -/
/-- outside the blocks of S (and new ones) w' is as w was -/
structure Off (S : Nat → Prop) (w w' : World) : Prop where
  os : w'.os = w.os
  tape : w'.tape = w.tape
  output : w'.output = w.output
  size : w.heap.size ≤ w'.heap.size
  block : ∀ k, k < w.heap.size → ¬ S k → w'.heap[k]? = w.heap[k]?
theorem Off.refl (S : Nat → Prop) (w : World) : Off S w w := ⟨rfl, rfl, rfl, Nat.le_refl _, fun _ _ _ => rfl⟩
theorem Off.of_ext {S : Nat → Prop} {w w' : World} (h : Ext w w') : Off S w w' := ⟨h.os, h.tape, h.output, h.size, fun k hk _ => h.block k hk⟩
theorem Off.trans {S : Nat → Prop} {a b c : World} (h : Off S a b) (k : Off S b c) : Off S a c :=
  ⟨k.os.trans h.os, k.tape.trans h.tape, k.output.trans h.output, Nat.le_trans h.size k.size, fun i hi hs => (k.block i (Nat.lt_of_lt_of_le hi h.size) hs).trans (h.block i hi hs)⟩
theorem Off.mono {S S' : Nat → Prop} {a b : World} (h : Off S a b) (hs : ∀ k, S k → S' k) : Off S' a b := ⟨h.os, h.tape, h.output, h.size, fun i hi hn => h.block i hi (fun hh => hn (hs i hh))⟩
theorem Off.setCell {S : Nat → Prop} {a w : World} (h : Off S a w) {p : Addr} (hp : S p.block ∨ a.heap.size ≤ p.block) (u : Value) : Off S a (w.setCell p u) :=
  ⟨h.os, h.tape, h.output, by simpa [World.setCell] using h.size, fun k hk hs => (Below.heap_setCell w p u k (fun e => by subst e; rcases hp with hp | hp; exact hs hp; omega)).trans (h.block k hk hs)⟩
theorem Off.ext {S : Nat → Prop} {w w' : World} (h : Off S w w') (hs : ∀ k, ¬ S k) : Ext w w' := ⟨h.os, h.tape, h.output, h.size, fun k hk => h.block k hk (hs k)⟩
theorem Off.cell {S : Nat → Prop} {w w' : World} (h : Off S w w') {p : Addr} (hp : p.block < w.heap.size) (hs : ¬ S p.block) : w'.cell? p = w.cell? p := World.cell?_of_block (w := w) (h.block p.block hp hs)
theorem Off.frozen {S : Nat → Prop} {w w' : World} (h : Off S w w') {p : Addr} (hp : p.block < w.heap.size) (hs : ¬ S p.block) : w'.frozen? p = w.frozen? p := World.frozen?_of_block (w := w) (h.block p.block hp hs)
/-- of what lay below 'base' nothing has turned -/
theorem Ext.off {S : Nat → Prop} {a w w' : World} (h : Ext a w) (hx : Off S w w') (hs : ∀ k, k < a.heap.size → ¬ S k) : Ext a w' :=
  ⟨hx.os.trans h.os, hx.tape.trans h.tape, hx.output.trans h.output, Nat.le_trans h.size hx.size, fun k hk => (hx.block k (Nat.lt_of_lt_of_le hk h.size) (hs k hk)).trans (h.block k hk)⟩
section
variable {S : Nat → Prop} {w w' : World} {lo hi : Nat} {v : Value}
theorem Row.off {sz n : Nat} {f : Nat → Value} (h : Row w lo hi sz v n f) (hx : Off S w w') (hs : ∀ k, lo ≤ k → k < hi → ¬ S k) (hh : hi ≤ w.heap.size) : Row w' lo hi sz v n f := by
  obtain ⟨hm, A, c, hv, hc, hr⟩ := h
  refine ⟨hm, A, c, hv, hc, fun hn => ?_⟩
  obtain ⟨b, off, hA, h1, h2, h3⟩ := hr hn
  exact ⟨b, off, hA, h1, h2, fun i hi => (hx.cell (p := ⟨b, off + i, none⟩) (by show b < _; omega) (hs b h1 h2)).trans (h3 i hi)⟩
theorem Own.off {b sz n : Nat} {f : Nat → Value} (h : Own w b sz v n f) (hx : Off S w w') (hs : 0 < n → ¬ S b) : Own w' b sz v n f := by
  obtain ⟨hm, A, c, hv, hc, hr⟩ := h
  refine ⟨hm, A, c, hv, hc, fun hn => ?_⟩
  obtain ⟨hb, off, hA, h3⟩ := hr hn
  exact ⟨Nat.lt_of_lt_of_le hb hx.size, off, hA, fun i hi => ⟨(hx.cell (p := ⟨b, off + i, none⟩) hb (hs hn)).trans (h3 i hi).1, (hx.frozen (p := ⟨b, off + i, none⟩) hb (hs hn)).trans (h3 i hi).2⟩⟩
theorem Boxed.off {g : Nat} {cs : List Value} (h : Boxed w g cs) (hx : Off S w w') (hs : ¬ S g) : Boxed w' g cs :=
  ⟨Nat.lt_of_lt_of_le h.1 hx.size, fun i u hu => ⟨(hx.cell (p := ⟨g, i, none⟩) h.1 hs).trans (h.2 i u hu).1, (hx.frozen (p := ⟨g, i, none⟩) h.1 hs).trans (h.2 i u hu).2⟩⟩
theorem Sets.off {l : List (List Sp)} (h : Sets w lo hi v l) (hx : Off S w w') (hs : ∀ k, lo ≤ k → k < hi → ¬ S k) (hh : hi ≤ w.heap.size) : Sets w' lo hi v l := by
  obtain ⟨f, h1, h2⟩ := h
  exact ⟨f, h1.off hx hs hh, fun i hi => Row.off (h2 i hi) hx hs hh⟩
theorem OwnSets.off {l : List (List Sp)} (h : OwnSets w lo hi v l) (hx : Off S w w') (hs : ∀ k, lo ≤ k → k < hi → ¬ S k) : OwnSets w' lo hi v l := by
  obtain ⟨g0, f, g, h1, h2, h3, h4⟩ := h
  exact ⟨g0, f, g, h1.off hx (fun hn => hs _ (h2 hn).1 (h2 hn).2), h2, fun i hi => ⟨(h3 i hi).1.off hx (fun hn => hs _ ((h3 i hi).2 hn).1 ((h3 i hi).2 hn).2.1), (h3 i hi).2⟩, h4⟩
theorem OwnNet.off {n : Net} (h : OwnNet w lo hi v n) (hx : Off S w w') (hs : ∀ k, lo ≤ k → k < hi → ¬ S k) : OwnNet w' lo hi v n := by
  obtain ⟨s, k, a, b, gk, e, h1, h2, h3, h4, h5⟩ := h
  exact ⟨s, k, a, b, gk, e, h1, h2, h3.off hx (fun k hk hk' => hs k (by omega) (by omega)), h4.off hx (fun hn => hs _ (h5 hn).1 (h5 hn).2.1), h5⟩
/-- one cell of an owned row is written -/
theorem Own.set {b sz n off c : Nat} {f : Nat → Value} (h : Own w b sz (.slice (some ⟨b, off, none⟩) n c) n f) (j : Nat) (u : Value) (hj : j < n * sz) : Own (w.setCell ⟨b, off + j, none⟩ u) b sz (.slice (some ⟨b, off, none⟩) n c) n (fun i => if i = j then u else f i) := by
  obtain ⟨hm, A, c', hv, hc, hr⟩ := h
  refine ⟨hm, A, c', hv, hc, fun hn => ?_⟩
  obtain ⟨hb, off', hA, h3⟩ := hr hn
  subst hA
  injection hv with e1 e2 e3
  injection e1 with e1
  injection e1 with _ e1
  subst e1
  refine ⟨by simpa [World.setCell] using hb, off, rfl, fun i hi => ⟨?_, ?_⟩⟩
  · by_cases e : i = j
    · subst e
      simp only [if_true]
      exact World.cell?_setCell_same w ⟨b, off + i, none⟩ u (h3 i hi).1
    · show _ = some (if i = j then u else f i)
      rw [if_neg e]
      exact (World.cell?_setCell_other w ⟨b, off + j, none⟩ ⟨b, off + i, none⟩ u (fun hh => e (by injection hh with _ h2; omega))).trans (h3 i hi).1
  · exact (World.frozen?_setCell w ⟨b, off + j, none⟩ ⟨b, off + i, none⟩ u).trans (h3 i hi).2
theorem Own.at_ {b sz n c : Nat} {A : Option Addr} {f : Nat → Value} (h : Own w b sz (.slice A n c) n f) (hn : 0 < n) : ∃ off, A = some ⟨b, off, none⟩ ∧ b < w.heap.size ∧ ∀ i, i < n * sz → w.cell? ⟨b, off + i, none⟩ = some (f i) ∧ w.frozen? ⟨b, off + i, none⟩ = false := by
  obtain ⟨hm, A', c', hv, hc, hr⟩ := h
  obtain ⟨hb, off, hA, h3⟩ := hr hn
  injection hv with e1 e2 e3
  subst e1
  exact ⟨off, hA, hb, h3⟩
theorem Own.congr {b sz n : Nat} {f f' : Nat → Value} (h : Own w b sz v n f) (hf : ∀ i, i < n * sz → f i = f' i) : Own w b sz v n f' := by
  obtain ⟨hm, A, c, hv, hc, hr⟩ := h
  refine ⟨hm, A, c, hv, hc, fun hn => ?_⟩
  obtain ⟨hb, off, hA, h3⟩ := hr hn
  exact ⟨hb, off, hA, fun i hi => by rw [← hf i hi]; exact h3 i hi⟩
end

/-! ### What is told of the plain data -/
def DayOk (n : Int) : Prop := 0 ≤ n ∧ n ≤ 730499
def SpOk (s : Sp) : Prop := DayOk s.fr ∧ DayOk s.to ∧ s.fr ≤ s.to
def StepOk (l : List Sp) (i : Nat) : Prop := SpOk (spAt l i) ∧ (0 < i → (spAt l (i - 1)).to + 2 ≤ (spAt l i).fr)
def SetOk (l : List Sp) : Prop := l.length ≤ 300 ∧ ∀ i, i < l.length → StepOk l i
def LkOk (l : Lk) (n : Nat) : Prop := (0 ≤ l.be ∧ l.be ≤ n - 1) ∧ (0 ≤ l.af ∧ l.af ≤ n - 1) ∧ l.be ≠ l.af ∧ (-730499 ≤ l.le ∧ l.le ≤ 730499) ∧ (-730499 ≤ l.mo ∧ l.mo ≤ 730499) ∧ l.le ≤ l.mo
def NetOk (n : Net) : Prop := n.sets.length ≤ 8 ∧ n.links.length ≤ 20 ∧ (∀ i, i < n.sets.length → SetOk (setAt n.sets i)) ∧ ∀ i, i < n.links.length → LkOk (lkAt n.links i) n.sets.length
end Go.Proofs.YtfmnkojjkjkdeaaDoor
