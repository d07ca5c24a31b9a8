/- Contracts: the reference's l20Bounds. -/
import Derived.Test.YtbddkmlfjghllaaGreatDoorT1Up
import Derived.Test.YtbddkmlfjghllaaGreatDoorT1Q
import Derived.Test.YtbddkmlfjghllaaGreatDoorT1S
import Derived.Deep.DeepCutAuto
namespace Go.Proofs.YtbddkmlfjghllaaGreatDoor
set_option linter.unusedVariables false
set_option linter.unusedSimpArgs false
open Go.RowKit
attribute [local go_sem] cell_onto

/-- what gives the bounds of a choice: two lists in new memory and whether there are any -/
def BoPost (ls : List Lk) (ch : List Sp) (w : World) (e : Ending) (w' : World) : Prop :=
  ∃ v1 v2, e = .returned (.tuple #[v1, v2, .bool (B (ChOk ls ch))]) ∧ Ext w w' ∧ (ChOk ls ch → ∃ g1 g2, (0 < ch.length → w.heap.size ≤ g1 ∧ w.heap.size ≤ g2 ∧ g1 ≠ g2) ∧
    Own w' g1 1 v1 ch.length (intCell (lowV ls ch)) ∧ Own w' g2 1 v2 ch.length (intCell (highV ls ch)))
/-- the two lists under way, in blocks of their own -/
structure BoSt (w : World) (N g1 g2 : Nat) (v1 v2 : Value) (lo hi : List Int) (wx : World) : Prop where
  ext : Ext w wx
  low : Own wx g1 1 v1 N (intCell lo)
  high : Own wx g2 1 v2 N (intCell hi)
theorem BoSt.more {w wx wy : World} {N g1 g2 : Nat} {v1 v2 : Value} {lo hi : List Int} (h : BoSt w N g1 g2 v1 v2 lo hi wx) (hx : Ext wx wy) : BoSt w N g1 g2 v1 v2 lo hi wy :=
  ⟨h.ext.trans hx, h.low.ext hx, h.high.ext hx⟩
theorem BoSt.setLow {w wx : World} {N g1 g2 off c v : Nat} {v2 : Value} {lo hi : List Int} (h : BoSt w N g1 g2 (.slice (some ⟨g1, off, none⟩) N c) v2 lo hi wx) (hg : w.heap.size ≤ g1) (hne : g1 ≠ g2) (hv : v < N) (hl : lo.length = N) (a : Int) :
    BoSt w N g1 g2 (.slice (some ⟨g1, off, none⟩) N c) v2 (lo.set v a) hi (wx.setCell ⟨g1, off + v, none⟩ (.int .i64 a)) :=
  ⟨h.ext.setCell (by show _ ≤ g1; omega) _, Own.setInt h.low hv hl a, h.high.setOther (fun _ => by show _ ≠ g1; omega) _⟩
theorem BoSt.setHigh {w wx : World} {N g1 g2 off c v : Nat} {v1 : Value} {lo hi : List Int} (h : BoSt w N g1 g2 v1 (.slice (some ⟨g2, off, none⟩) N c) lo hi wx) (hg : w.heap.size ≤ g2) (hne : g1 ≠ g2) (hv : v < N) (hl : hi.length = N) (a : Int) :
    BoSt w N g1 g2 v1 (.slice (some ⟨g2, off, none⟩) N c) lo (hi.set v a) (wx.setCell ⟨g2, off + v, none⟩ (.int .i64 a)) :=
  ⟨h.ext.setCell (by show _ ≤ g2; omega) _, h.low.setOther (fun _ => by show _ ≠ g2; omega) _, Own.setInt h.high hv hl a⟩
theorem intCells_push (l : List Int) (x : Int) : cellsOf (l.length * 1) (intCell l) ++ cellsOf (1 * 1) (intCell [x]) = cellsOf ((l ++ [x]).length * 1) (intCell (l ++ [x])) := by
  rw [cellsOf_append, List.length_append]
  have e : l.length * 1 + 1 * 1 = (l.length + [x].length) * 1 := by simp
  rw [e]
  refine cellsOf_congr (fun i hi => ?_)
  show (if i < l.length * 1 then intCell l i else intCell [x] (i - l.length * 1)) = intCell (l ++ [x]) i
  have hl : [x].length = 1 := rfl
  rw [hl] at hi
  unfold intCell inAt
  by_cases h : i < l.length * 1
  · rw [if_pos h, List.getD_eq_getElem?_getD, List.getD_eq_getElem?_getD, List.getElem?_append_left (by omega)]
  · rw [if_neg h, List.getD_eq_getElem?_getD, List.getD_eq_getElem?_getD, List.getElem?_append_right (by omega)]
    have : i = l.length := by omega
    subst this
    simp
theorem take_pushI {α : Type} (f : Sp → α) (ch : List Sp) {j : Nat} (h : j < ch.length) : (ch.map f).take (j + 1) = (ch.map f).take j ++ [f (spAt ch j)] := by
  rw [List.take_succ_eq_append_getElem (by simpa using h)]
  unfold spAt
  rw [List.getD_eq_getElem?_getD, List.getElem?_eq_getElem h]
  simp
theorem Dst.off' {S : Nat → Prop} {w w' : World} {b : Nat} {e : TypeId} {sz n : Nat} {v : Value} {xs : List Value} (h : Dst w b e sz v n xs) (hx : Off S w w') (hs : ∀ g, b ≤ g → v.ownBlock = some g → ¬ S g) : Dst w' b e sz v n xs := by
  rcases h with h | ⟨h1, h2, h3, h4⟩
  · exact .inl (ownsRow_off h hx (fun g hg => hs g (h.lt g hg).1 hg))
  · exact .inr ⟨h1, h2, h3, fun g hg => Nat.lt_of_lt_of_le (h4 g hg) hx.size⟩
theorem Dst.ext' {w w' : World} {b : Nat} {e : TypeId} {sz n : Nat} {v : Value} {xs : List Value} (h : Dst w b e sz v n xs) (hx : Ext w w') : Dst w' b e sz v n xs :=
  h.off' (S := fun _ => False) (Off.of_ext hx) (fun _ _ _ h => h)
theorem Own.of_dst' {w : World} {base n sz : Nat} {e : TypeId} {v : Value} {f : Nat → Value} (h : Dst w base e sz v n (cellsOf (n * sz) f)) :
    ∃ g, (0 < n → v.ownBlock = some g ∧ base ≤ g) ∧ Own w g sz v n f := by
  rcases h with h | ⟨h1, _, ⟨A, e⟩, _⟩
  · exact Own.of_owned h
  · exact ⟨0, fun h => absurd h (by omega), by rw [h1]; exact ⟨Nat.zero_le _, A, 0, e, Nat.le_refl _, fun h => absurd h (by omega)⟩⟩
theorem int_cells (x : Int) : ∀ i, i < 1 → [Value.int .i64 x][i]? = some (intCell [x] i)
  | 0, _ => rfl
  | i + 1, h => absurd h (by omega)
/-- the two lists while they are filled -/
def FillSt (w : World) (T : Nat) (ch : List Sp) (j : Nat) (u1 u2 : Value) (wr : World) : Prop :=
  Ext w wr ∧ Dst wr (w.heap.size + 1) T 1 u1 ((frsL ch).take j).length (cellsOf (((frsL ch).take j).length * 1) (intCell ((frsL ch).take j))) ∧
    Dst wr (w.heap.size + 1) T 1 u2 ((tosL ch).take j).length (cellsOf (((tosL ch).take j).length * 1) (intCell ((tosL ch).take j))) ∧ ∀ g, u1.ownBlock = some g → u2.ownBlock ≠ some g
/-- one more onto the first, then one more onto the second -/
theorem FillSt.push {w wr wa w2 wb w3 : World} {T : Nat} {ch : List Sp} {j : Nat} {u1 u2 v1 v2 : Value} (h : FillSt w T ch j u1 u2 wr) (hj : j < ch.length) (hx : Ext wr wa) (hp : Put (w.heap.size + 1) wa u1 w2 v1)
    (h1 : w2.ownsRow (w.heap.size + 1) T 1 v1 (((frsL ch).take j).length + 1) (cellsOf (((frsL ch).take j).length * 1) (intCell ((frsL ch).take j)) ++ cellsOf (1 * 1) (intCell [(spAt ch j).fr])))
    (hx2 : Ext w2 wb) (hp2 : Put (w.heap.size + 1) wb u2 w3 v2)
    (h2 : w3.ownsRow (w.heap.size + 1) T 1 v2 (((tosL ch).take j).length + 1) (cellsOf (((tosL ch).take j).length * 1) (intCell ((tosL ch).take j)) ++ cellsOf (1 * 1) (intCell [(spAt ch j).to]))) :
    FillSt w T ch (j + 1) v1 v2 w3 := by
  obtain ⟨a1, a2, a3, a4⟩ := h
  have e1 := take_pushI (·.fr) ch hj
  have e2 := take_pushI (·.to) ch hj
  have e1' : (frsL ch).take (j + 1) = (frsL ch).take j ++ [(spAt ch j).fr] := e1
  have e2' : (tosL ch).take (j + 1) = (tosL ch).take j ++ [(spAt ch j).to] := e2
  have hw2 : Ext w w2 := hp.ext (a1.trans hx) (by omega)
  have hl1 := a2.lt
  have hl2 := a3.lt
  have hs1 := hx.size
  have hs2 := hx2.size
  have hs3 := hp.size
  have n1 : ∀ g, v1.ownBlock = some g → u2.ownBlock ≠ some g := fun g hg hu => by
    rcases hp.2 g hg with hh | hh
    · exact a4 g hh.2.2 hu
    · have := hl2 g hu; omega
  refine ⟨hp2.ext (hw2.trans hx2) (by omega), .inl ?_, .inl ?_, fun g hg hu => ?_⟩
  · rw [e1', ← intCells_push, List.length_append]
    refine ownsRow_off (row_ext h1 hx2) hp2.1 (fun g hg hh => n1 g hg hh.2.2)
  · rw [e2', ← intCells_push, List.length_append]
    exact h2
  · rcases hp2.2 g hu with hh | hh
    · exact n1 g hg hh.2.2
    · have := (h1.lt g hg).2; omega

theorem not_still (ls hs : List Lk) (ch : List Sp) (r : Nat) : (loX ls (frsL ch) (r + 1) ≠ loX ls (frsL ch) r ∨ upX hs (tosL ch) (r + 1) ≠ upX hs (tosL ch) r) ↔ ¬ Still2 ls hs ch r := by
  unfold Still2
  exact Classical.not_and_iff_not_or_not.symm
def NoX (ls : List Lk) (ch : List Sp) (r t : Nat) : Prop := ∀ i, i < t → ¬ CrossS ls ls ch r i
theorem NoX.step {ls : List Lk} {ch : List Sp} {r t : Nat} (h : NoX ls ch r t) (h2 : ¬ CrossS ls ls ch r t) : NoX ls ch r (t + 1) := by
  intro i hi
  by_cases e : i = t
  · subst e; exact h2
  · exact h i (by omega)
theorem BoPost.no {ls : List Lk} {ch : List Sp} {w w' : World} (h : ¬ ChOk ls ch) (hx : Ext w w') : BoPost ls ch w (.returned (.tuple #[.slice none 0 0, .slice none 0 0, .bool false])) w' :=
  ⟨_, _, by rw [B_false h], hx, fun h' => absurd h' h⟩
theorem BoPost.yes {ls hs : List Lk} {ch : List Sp} {w w' : World} {r g1 g2 : Nat} {v1 v2 : Value} (hl : LksOk ls ch.length) (hh : LksOk hs ch.length) (ha : Alike ls hs) (hst : Still2 ls hs ch r)
    (hx : ∀ i, i < ch.length → inAt (loX ls (frsL ch) (r + 1)) i ≤ (spAt ch i).to) (hb : BoSt w ch.length g1 g2 v1 v2 (loX ls (frsL ch) (r + 1)) (upX hs (tosL ch) (r + 1)) w')
    (hg : 0 < ch.length → w.heap.size ≤ g1 ∧ w.heap.size ≤ g2 ∧ g1 ≠ g2) : BoPost ls ch w (.returned (.tuple #[v1, v2, .bool true])) w' := by
  have hok : ChOk ls ch := still2_ok hl hst (fun i hi => by rw [← hst.1]; exact hx i hi)
  obtain ⟨e1, e2⟩ := still2_vals hl hh ha hok hst
  rw [hst.1, hst.2, e1, e2] at hb
  exact ⟨_, _, by rw [B_true hok], hb.ext, fun _ => ⟨g1, g2, hg, hb.low, hb.high⟩⟩
/-- the mark behind the four turns of one link -/
theorem turn_ne {l : Lk} {x y y1 y2 x' z z1 z2 : List Int}
    (h1 : (y ≠ x ∨ inAt y l.af.toNat < inAt y l.be.toNat + l.le ∨ inAt (lo1 l y) l.be.toNat < inAt (lo1 l y) l.af.toNat + -l.mo) ↔ lo2 l y ≠ x)
    (h2 : (z ≠ x' ∨ inAt z l.be.toNat + l.mo < inAt z l.af.toNat ∨ inAt (up1 l z) l.af.toNat + -l.le < inAt (up1 l z) l.be.toNat) ↔ up2 l z ≠ x')
    (d1 : lo1 l y = y1) (d2 : lo2 l y = y2) (d3 : up1 l z = z1) (d4 : up2 l z = z2) :
    (((((y ≠ x ∨ z ≠ x') ∨ inAt y l.af.toNat < inAt y l.be.toNat + l.le) ∨ inAt y1 l.be.toNat < inAt y1 l.af.toNat - l.mo) ∨ inAt z l.be.toNat + l.mo < inAt z l.af.toNat) ∨ inAt z1 l.af.toNat - l.le < inAt z1 l.be.toNat) ↔ (y2 ≠ x ∨ z2 ≠ x') := by
  rw [d1, d2] at h1
  rw [d3, d4] at h2
  rw [← h1, ← h2, Int.sub_eq_add_neg, Int.sub_eq_add_neg]
  generalize (y ≠ x) = p1
  generalize (z ≠ x') = p2
  constructor
  · rintro (((((h | h) | h) | h) | h) | h)
    · exact .inl (.inl h)
    · exact .inr (.inl h)
    · exact .inl (.inr (.inl h))
    · exact .inl (.inr (.inr h))
    · exact .inr (.inr (.inl h))
    · exact .inr (.inr (.inr h))
  · rintro ((h | h | h) | (h | h | h))
    · exact .inl (.inl (.inl (.inl (.inl h))))
    · exact .inl (.inl (.inl (.inr h)))
    · exact .inl (.inl (.inr h))
    · exact .inl (.inl (.inl (.inl (.inr h))))
    · exact .inl (.inr h)
    · exact .inr h
theorem turn_all {b b1 b2 b3 b4 : Bool} {c1 c2 c3 c4 p q : Prop} (h5 : b4 = true ↔ (b3 = true ∨ c4)) (h4 : b3 = true ↔ (b2 = true ∨ c3)) (h3 : b2 = true ↔ (b1 = true ∨ c2)) (h2 : b1 = true ↔ (b = true ∨ c1)) (h1 : b = true ↔ (p ∨ q)) :
    b4 = true ↔ (((((p ∨ q) ∨ c1) ∨ c2) ∨ c3) ∨ c4) := by
  rw [h5, h4, h3, h2, h1]
end Go.Proofs.YtbddkmlfjghllaaGreatDoor
