/- Contracts: the reference's l20Bounds. -/
import Derived.Test.YtfmnkojjkjkdeaaGreatDoorQ3Up
import Derived.Test.YtfmnkojjkjkdeaaGreatDoorQ3Q
import Derived.Test.YtfmnkojjkjkdeaaGreatDoorQ3S
import Derived.Deep.DeepCutAuto
namespace Go.Proofs.YtfmnkojjkjkdeaaGreatDoor
set_option linter.unusedVariables false
set_option linter.unusedSimpArgs false
open Go.RowKit
attribute [local go_sem] cell_onto

/-- what gives the bounds of a choice: two lists in new memory and whether there are any -/
def BoPost (ls : List Lk) (ch : List Sp) (w : World) (e : Ending) (w' : World) : Prop :=
  ∃ v1 v2, e = .returned (.tuple #[v1, v2, .bool (B (ChOk ls ch))]) ∧ Ext w w' ∧ (ChOk ls ch → ∃ g1 g2, (0 < ch.length → w.heap.size ≤ g1 ∧ w.heap.size ≤ g2 ∧ g1 ≠ g2) ∧
    Own w' g1 1 v1 ch.length (intCell (lowV ls ch)) ∧ Own w' g2 1 v2 ch.length (intCell (highV ls ch)))
/-- the two lists under way, in blocks of their own -/
structure BoSt (w : World) (N g1 g2 : Nat) (v1 v2 : Value) (lo hi : List Int) (wx : World) : Prop where
  ext : Ext w wx
  low : Own wx g1 1 v1 N (intCell lo)
  high : Own wx g2 1 v2 N (intCell hi)
theorem BoSt.more {w wx wy : World} {N g1 g2 : Nat} {v1 v2 : Value} {lo hi : List Int} (h : BoSt w N g1 g2 v1 v2 lo hi wx) (hx : Ext wx wy) : BoSt w N g1 g2 v1 v2 lo hi wy :=
  ⟨h.ext.trans hx, h.low.ext hx, h.high.ext hx⟩
theorem BoSt.setLow {w wx : World} {N g1 g2 off c v : Nat} {v2 : Value} {lo hi : List Int} (h : BoSt w N g1 g2 (.slice (some ⟨g1, off, none⟩) N c) v2 lo hi wx) (hg : w.heap.size ≤ g1) (hne : g1 ≠ g2) (hv : v < N) (hl : lo.length = N) (a : Int) :
    BoSt w N g1 g2 (.slice (some ⟨g1, off, none⟩) N c) v2 (lo.set v a) hi (wx.setCell ⟨g1, off + v, none⟩ (.int .i64 a)) :=
  ⟨h.ext.setCell (by show _ ≤ g1; omega) _, Own.setInt h.low hv hl a, h.high.setOther (fun _ => by show _ ≠ g1; omega) _⟩
theorem BoSt.setHigh {w wx : World} {N g1 g2 off c v : Nat} {v1 : Value} {lo hi : List Int} (h : BoSt w N g1 g2 v1 (.slice (some ⟨g2, off, none⟩) N c) lo hi wx) (hg : w.heap.size ≤ g2) (hne : g1 ≠ g2) (hv : v < N) (hl : hi.length = N) (a : Int) :
    BoSt w N g1 g2 v1 (.slice (some ⟨g2, off, none⟩) N c) lo (hi.set v a) (wx.setCell ⟨g2, off + v, none⟩ (.int .i64 a)) :=
  ⟨h.ext.setCell (by show _ ≤ g2; omega) _, h.low.setOther (fun _ => by show _ ≠ g2; omega) _, Own.setInt h.high hv hl a⟩
theorem intCells_push (l : List Int) (x : Int) : cellsOf (l.length * 1) (intCell l) ++ cellsOf (1 * 1) (intCell [x]) = cellsOf ((l ++ [x]).length * 1) (intCell (l ++ [x])) := by
  rw [cellsOf_append, List.length_append]
  have e : l.length * 1 + 1 * 1 = (l.length + [x].length) * 1 := by simp
  rw [e]
  refine cellsOf_congr (fun i hi => ?_)
  show (if i < l.length * 1 then intCell l i else intCell [x] (i - l.length * 1)) = intCell (l ++ [x]) i
  have hl : [x].length = 1 := rfl
  rw [hl] at hi
  unfold intCell inAt
  by_cases h : i < l.length * 1
  · rw [if_pos h, List.getD_eq_getElem?_getD, List.getD_eq_getElem?_getD, List.getElem?_append_left (by omega)]
  · rw [if_neg h, List.getD_eq_getElem?_getD, List.getD_eq_getElem?_getD, List.getElem?_append_right (by omega)]
    have : i = l.length := by omega
    subst this
    simp
theorem take_pushI {α : Type} (f : Sp → α) (ch : List Sp) {j : Nat} (h : j < ch.length) : (ch.map f).take (j + 1) = (ch.map f).take j ++ [f (spAt ch j)] := by
  rw [List.take_succ_eq_append_getElem (by simpa using h)]
  unfold spAt
  rw [List.getD_eq_getElem?_getD, List.getElem?_eq_getElem h]
  simp
theorem Dst.off' {S : Nat → Prop} {w w' : World} {b : Nat} {e : TypeId} {sz n : Nat} {v : Value} {xs : List Value} (h : Dst w b e sz v n xs) (hx : Off S w w') (hs : ∀ g, b ≤ g → v.ownBlock = some g → ¬ S g) : Dst w' b e sz v n xs := by
  rcases h with h | ⟨h1, h2, h3, h4⟩
  · exact .inl (ownsRow_off h hx (fun g hg => hs g (h.lt g hg).1 hg))
  · exact .inr ⟨h1, h2, h3, fun g hg => Nat.lt_of_lt_of_le (h4 g hg) hx.size⟩
theorem Dst.ext' {w w' : World} {b : Nat} {e : TypeId} {sz n : Nat} {v : Value} {xs : List Value} (h : Dst w b e sz v n xs) (hx : Ext w w') : Dst w' b e sz v n xs :=
  h.off' (S := fun _ => False) (Off.of_ext hx) (fun _ _ _ h => h)
theorem Own.of_dst' {w : World} {base n sz : Nat} {e : TypeId} {v : Value} {f : Nat → Value} (h : Dst w base e sz v n (cellsOf (n * sz) f)) :
    ∃ g, (0 < n → v.ownBlock = some g ∧ base ≤ g) ∧ Own w g sz v n f := by
  rcases h with h | ⟨h1, _, ⟨A, e⟩, _⟩
  · exact Own.of_owned h
  · exact ⟨0, fun h => absurd h (by omega), by rw [h1]; exact ⟨Nat.zero_le _, A, 0, e, Nat.le_refl _, fun h => absurd h (by omega)⟩⟩
theorem int_cells (x : Int) : ∀ i, i < 1 → [Value.int .i64 x][i]? = some (intCell [x] i)
  | 0, _ => rfl
  | i + 1, h => absurd h (by omega)
/-- the two lists while they are filled -/
def FillSt (w : World) (T : Nat) (ch : List Sp) (j : Nat) (u1 u2 : Value) (wr : World) : Prop :=
  Ext w wr ∧ Dst wr (w.heap.size + 1) T 1 u1 ((frsL ch).take j).length (cellsOf (((frsL ch).take j).length * 1) (intCell ((frsL ch).take j))) ∧
    Dst wr (w.heap.size + 1) T 1 u2 ((tosL ch).take j).length (cellsOf (((tosL ch).take j).length * 1) (intCell ((tosL ch).take j))) ∧ ∀ g, u1.ownBlock = some g → u2.ownBlock ≠ some g
/-- one more onto the first, then one more onto the second -/
theorem FillSt.push {w wr wa w2 wb w3 : World} {T : Nat} {ch : List Sp} {j : Nat} {u1 u2 v1 v2 : Value} (h : FillSt w T ch j u1 u2 wr) (hj : j < ch.length) (hx : Ext wr wa) (hp : Put (w.heap.size + 1) wa u1 w2 v1)
    (h1 : w2.ownsRow (w.heap.size + 1) T 1 v1 (((frsL ch).take j).length + 1) (cellsOf (((frsL ch).take j).length * 1) (intCell ((frsL ch).take j)) ++ cellsOf (1 * 1) (intCell [(spAt ch j).fr])))
    (hx2 : Ext w2 wb) (hp2 : Put (w.heap.size + 1) wb u2 w3 v2)
    (h2 : w3.ownsRow (w.heap.size + 1) T 1 v2 (((tosL ch).take j).length + 1) (cellsOf (((tosL ch).take j).length * 1) (intCell ((tosL ch).take j)) ++ cellsOf (1 * 1) (intCell [(spAt ch j).to]))) :
    FillSt w T ch (j + 1) v1 v2 w3 := by
  obtain ⟨a1, a2, a3, a4⟩ := h
  have e1 := take_pushI (·.fr) ch hj
  have e2 := take_pushI (·.to) ch hj
  have e1' : (frsL ch).take (j + 1) = (frsL ch).take j ++ [(spAt ch j).fr] := e1
  have e2' : (tosL ch).take (j + 1) = (tosL ch).take j ++ [(spAt ch j).to] := e2
  have hw2 : Ext w w2 := hp.ext (a1.trans hx) (by omega)
  have hl1 := a2.lt
  have hl2 := a3.lt
  have hs1 := hx.size
  have hs2 := hx2.size
  have hs3 := hp.size
  have n1 : ∀ g, v1.ownBlock = some g → u2.ownBlock ≠ some g := fun g hg hu => by
    rcases hp.2 g hg with hh | hh
    · exact a4 g hh.2.2 hu
    · have := hl2 g hu; omega
  refine ⟨hp2.ext (hw2.trans hx2) (by omega), .inl ?_, .inl ?_, fun g hg hu => ?_⟩
  · rw [e1', ← intCells_push, List.length_append]
    refine ownsRow_off (row_ext h1 hx2) hp2.1 (fun g hg hh => n1 g hg hh.2.2)
  · rw [e2', ← intCells_push, List.length_append]
    exact h2
  · rcases hp2.2 g hu with hh | hh
    · exact n1 g hg hh.2.2
    · have := (h1.lt g hg).2; omega

theorem not_still (ls hs : List Lk) (ch : List Sp) (r : Nat) : (loX ls (frsL ch) (r + 1) ≠ loX ls (frsL ch) r ∨ upX hs (tosL ch) (r + 1) ≠ upX hs (tosL ch) r) ↔ ¬ Still2 ls hs ch r := by
  unfold Still2
  exact Classical.not_and_iff_not_or_not.symm
def NoX (ls : List Lk) (ch : List Sp) (r t : Nat) : Prop := ∀ i, i < t → ¬ CrossS ls ls ch r i
theorem NoX.step {ls : List Lk} {ch : List Sp} {r t : Nat} (h : NoX ls ch r t) (h2 : ¬ CrossS ls ls ch r t) : NoX ls ch r (t + 1) := by
  intro i hi
  by_cases e : i = t
  · subst e; exact h2
  · exact h i (by omega)
theorem BoPost.no {ls : List Lk} {ch : List Sp} {w w' : World} (h : ¬ ChOk ls ch) (hx : Ext w w') : BoPost ls ch w (.returned (.tuple #[.slice none 0 0, .slice none 0 0, .bool false])) w' :=
  ⟨_, _, by rw [B_false h], hx, fun h' => absurd h' h⟩
theorem BoPost.yes {ls hs : List Lk} {ch : List Sp} {w w' : World} {r g1 g2 : Nat} {v1 v2 : Value} (hl : LksOk ls ch.length) (hh : LksOk hs ch.length) (ha : Alike ls hs) (hst : Still2 ls hs ch r)
    (hx : ∀ i, i < ch.length → inAt (loX ls (frsL ch) (r + 1)) i ≤ (spAt ch i).to) (hb : BoSt w ch.length g1 g2 v1 v2 (loX ls (frsL ch) (r + 1)) (upX hs (tosL ch) (r + 1)) w')
    (hg : 0 < ch.length → w.heap.size ≤ g1 ∧ w.heap.size ≤ g2 ∧ g1 ≠ g2) : BoPost ls ch w (.returned (.tuple #[v1, v2, .bool true])) w' := by
  have hok : ChOk ls ch := still2_ok hl hst (fun i hi => by rw [← hst.1]; exact hx i hi)
  obtain ⟨e1, e2⟩ := still2_vals hl hh ha hok hst
  rw [hst.1, hst.2, e1, e2] at hb
  exact ⟨_, _, by rw [B_true hok], hb.ext, fun _ => ⟨g1, g2, hg, hb.low, hb.high⟩⟩
/-- the mark behind the four turns of one link -/
theorem turn_ne {l : Lk} {x y y1 y2 x' z z1 z2 : List Int}
    (h1 : (y ≠ x ∨ inAt y l.af.toNat < inAt y l.be.toNat + l.le ∨ inAt (lo1 l y) l.be.toNat < inAt (lo1 l y) l.af.toNat + -l.mo) ↔ lo2 l y ≠ x)
    (h2 : (z ≠ x' ∨ inAt z l.be.toNat + l.mo < inAt z l.af.toNat ∨ inAt (up1 l z) l.af.toNat + -l.le < inAt (up1 l z) l.be.toNat) ↔ up2 l z ≠ x')
    (d1 : lo1 l y = y1) (d2 : lo2 l y = y2) (d3 : up1 l z = z1) (d4 : up2 l z = z2) :
    (((((y ≠ x ∨ z ≠ x') ∨ inAt y l.af.toNat < inAt y l.be.toNat + l.le) ∨ inAt y1 l.be.toNat < inAt y1 l.af.toNat - l.mo) ∨ inAt z l.be.toNat + l.mo < inAt z l.af.toNat) ∨ inAt z1 l.af.toNat - l.le < inAt z1 l.be.toNat) ↔ (y2 ≠ x ∨ z2 ≠ x') := by
  rw [d1, d2] at h1
  rw [d3, d4] at h2
  rw [← h1, ← h2, Int.sub_eq_add_neg, Int.sub_eq_add_neg]
  generalize (y ≠ x) = p1
  generalize (z ≠ x') = p2
  constructor
  · rintro (((((h | h) | h) | h) | h) | h)
    · exact .inl (.inl h)
    · exact .inr (.inl h)
    · exact .inl (.inr (.inl h))
    · exact .inl (.inr (.inr h))
    · exact .inr (.inr (.inl h))
    · exact .inr (.inr (.inr h))
  · rintro ((h | h | h) | (h | h | h))
    · exact .inl (.inl (.inl (.inl (.inl h))))
    · exact .inl (.inl (.inl (.inr h)))
    · exact .inl (.inl (.inr h))
    · exact .inl (.inl (.inl (.inl (.inr h))))
    · exact .inl (.inr h)
    · exact .inr h
theorem turn_all {b b1 b2 b3 b4 : Bool} {c1 c2 c3 c4 p q : Prop} (h5 : b4 = true ↔ (b3 = true ∨ c4)) (h4 : b3 = true ↔ (b2 = true ∨ c3)) (h3 : b2 = true ↔ (b1 = true ∨ c2)) (h2 : b1 = true ↔ (b = true ∨ c1)) (h1 : b = true ↔ (p ∨ q)) :
    b4 = true ↔ (((((p ∨ q) ∨ c1) ∨ c2) ∨ c3) ∨ c4) := by
  rw [h5, h4, h3, h2, h1]
set_option maxRecDepth 100000 in
set_option maxHeartbeats 16000000 in
theorem spec_l20Bounds (s k v : Value) (n : Net) (ch : List Sp) (w : World) (h : NetIn w s k n) (hch : Spans w 0 w.heap.size v ch) (h8 : ch.length ≤ 8) (h20 : n.links.length ≤ 21) (hlks : LksOk n.links ch.length) (hsp : SpsOk ch) :
    Calls Tryz.prog 200 #[.agg #[s, k], v] w (BoPost n.links ch w) := by
  obtain ⟨Ak, ck, rfl, hnk, hck⟩ := h.2.len
  obtain ⟨Ac, cc, rfl, hnc, hcc⟩ := hch.len
  have H := Lib.hid h
  have Hc := Lib.hid hch
  have Hlks := Lib.hid hlks
  have Hsp := Lib.hid hsp
  clear h hch hlks hsp
  go_enter Tryz.func200, Tryz.ntmps200
  have nb := Boxed.new w [s, .slice Ak n.links.length ck] 27; have nb0 := nb.at0; have nb1 := nb.at1; have nbg := nb.1; have Hnb := Lib.hid nb; clear nb
  go_wp2_with fail
  go_loopg [7, 8, 9] ch.length (fun q u1 u2 i wr => ∃ j : Nat, j + q = ch.length ∧ i = .int .i64 j ∧ Boxed wr w.heap.size [s, .slice Ak n.links.length ck] ∧ FillSt w 2 ch j u1 u2 wr)
  case atStart =>
    refine ⟨0, by omega, rfl, Hnb.out.ext (by repeat (first | exact Ext.refl _ | assumption | refine Ext.alloc ?_ _ | refine Ext.drew ?_ | refine Ext.drewN ?_ _ | refine Ext.setCell ?_ (by first | (simp; done) | (simp; omega) | omega) _ | refine Ext.trans ?_ (by assumption))), (by repeat (first | exact Ext.refl _ | assumption | refine Ext.alloc ?_ _ | refine Ext.drew ?_ | refine Ext.drewN ?_ _ | refine Ext.setCell ?_ (by first | (simp; done) | (simp; omega) | omega) _ | refine Ext.trans ?_ (by assumption))), .inr ⟨rfl, rfl, ⟨_, rfl⟩, fun g hg => ?_⟩, .inr ⟨rfl, rfl, ⟨_, rfl⟩, fun g hg => ?_⟩, fun g hg hu => ?_⟩
    all_goals (simp [Value.ownBlock] at *)
    all_goals omega
  clear nb0 nb1 nbg Hnb
  case round =>
    obtain ⟨j, hj, rfl, hnb, hst⟩ := hrel
    have nb := hnb; have nb0 := nb.at0; have nb1 := nb.at1; have nbg := nb.1; have Hnb := Lib.hid nb; clear nb
    clear hnb
    have Hst := Lib.hid hst
    have hx := hst.1
    have hl1 : ((frsL ch).take j).length ≤ 8 := by rw [List.length_take, frsL_len]; omega
    have hl2 : ((tosL ch).take j).length ≤ 8 := by rw [List.length_take, tosL_len]; omega
    clear hst
    by_cases hlt : j < ch.length
    · obtain ⟨b, off, rfl, _, hb, h1, h2⟩ := (Hc.out.ext hx (Nat.le_refl _)).at_ hlt
      have hbr : b < wr.heap.size := by have := hx.size; omega
      have hxs := hx.size
      go_wp2_with (first
        | (at_builtin; refine wpList_append_row _ rfl _ _ 28 rfl (w.heap.size + 1) 2 1 8 Tryz.underlying28 (by kernel_rfl) (by omega) _ ((frsL ch).take j).length 1 _ rfl (Hst.out.2.1.ext' ((Ext.refl _).alloc _)) (.inr (by omega)) 0 _ _ (intCell [(spAt ch j).fr]) rfl ((Boxed.new wr [.int .i64 (spAt ch j).fr] 2).row rfl (int_cells _)) (fun _ _ => rfl) (by unfold maxLen; omega) (by omega) (by simp; omega) ?_; intro v1 w2 hown1 hput1; have hb2 : w2.cell? ⟨b, off + j * 2 + 1, none⟩ = some (.int .i64 (spAt ch j).to) := ((hput1.ext (hx.alloc (.cells #[.int .i64 (spAt ch j).fr] 2)) (by omega)).cell (p := ⟨b, off + j * 2 + 1, none⟩) hb).trans ((hx.cell (p := ⟨b, off + j * 2 + 1, none⟩) hb).symm.trans h2); have hbr2 : b < w2.heap.size := by have := hput1.size; simp at this; omega)
        | (at_builtin; refine wpList_append_row _ rfl _ _ 28 rfl (w.heap.size + 1) 2 1 8 Tryz.underlying28 (by kernel_rfl) (by omega) _ ((tosL ch).take j).length 1 _ rfl (((Hst.out.2.2.1.ext' ((Ext.refl _).alloc _)).off' hput1.1 (fun g hb hg hh => Hst.out.2.2.2 g hh.2.2 hg)).ext' ((Ext.refl _).alloc _)) (.inr (by omega)) 0 _ _ (intCell [(spAt ch j).to]) rfl ((Boxed.new w2 [.int .i64 (spAt ch j).to] 2).row rfl (int_cells _)) (fun _ _ => rfl) (by unfold maxLen; omega) (by omega) (by have := hput1.size; simp at this ⊢; omega) ?_; intro v2 w3 hown2 hput2))
      go_roundg (ch.length - (j + 1))
      case measure => omega
      case rel =>
        have hxa : Ext wr (wr.alloc (.cells #[.int .i64 (spAt ch j).fr] 2)) := (by repeat (first | exact Ext.refl _ | assumption | refine Ext.alloc ?_ _ | refine Ext.drew ?_ | refine Ext.drewN ?_ _ | refine Ext.setCell ?_ (by first | (simp; done) | (simp; omega) | omega) _ | refine Ext.trans ?_ (by assumption)))
        have hxb : Ext w2 (w2.alloc (.cells #[.int .i64 (spAt ch j).to] 2)) := (by repeat (first | exact Ext.refl _ | assumption | refine Ext.alloc ?_ _ | refine Ext.drew ?_ | refine Ext.drewN ?_ _ | refine Ext.setCell ?_ (by first | (simp; done) | (simp; omega) | omega) _ | refine Ext.trans ?_ (by assumption)))
        exact ⟨j + 1, by omega, by go_num, (((Hnb.out.ext hxa).off hput1.1 (fun hh => by have := hh.1; omega)).ext hxb).off hput2.1 (fun hh => by have := hh.1; omega), Hst.out.push hlt hxa hput1 hown1 hxb hput2 hown2⟩
    · obtain rfl : j = ch.length := by omega
      have hst := Hst.out
      obtain ⟨_, d1, d2, dne⟩ := hst
      rw [List.take_of_length_le (by rw [frsL_len]; omega), frsL_len] at d1
      rw [List.take_of_length_le (by rw [tosL_len]; omega), tosL_len] at d2
      obtain ⟨g1, hg1, ho1⟩ := Own.of_dst' d1
      obtain ⟨g2, hg2, ho2⟩ := Own.of_dst' d2
      obtain ⟨A1, cu1, rfl⟩ := ho1.len
      obtain ⟨A2, cu2, rfl⟩ := ho2.len
      have hne : 0 < ch.length → w.heap.size + 1 ≤ g1 ∧ w.heap.size + 1 ≤ g2 ∧ g1 ≠ g2 := fun h0 => ⟨(hg1 h0).2, (hg2 h0).2, fun e => dne g1 (hg1 h0).1 (by rw [e]; exact (hg2 h0).1)⟩
      have Hne := Lib.hid hne
      have Hbo : Hid (BoSt w ch.length g1 g2 (.slice A1 ch.length cu1) (.slice A2 ch.length cu2) (frsL ch) (tosL ch) wr) := Lib.hid ⟨hx, ho1, ho2⟩
      clear d1 d2 dne hg1 hg2 ho1 ho2 hne Hst hx hl1 hl2
      go_wp2_with fail
      go_loopg [10, 11, 12, 13, 14, 15, 16] (ch.length + 2) (fun q i u11 u12 u13 u14 u15 u16 wq => ∃ r : Nat, r + q = ch.length + 2 ∧ i = .int .i64 r ∧ Boxed wq w.heap.size [s, .slice Ak n.links.length ck] ∧
        BoSt w ch.length g1 g2 (.slice A1 ch.length cu1) (.slice A2 ch.length cu2) (loX n.links (frsL ch) r) (upX n.links (tosL ch) r) wq ∧ Ne2 n.links n.links ch r)
      case atStart => exact ⟨0, by omega, rfl, Hnb.out, Hbo.out, Ne2.zero⟩
      clear nb0 nb1 nbg Hnb Hbo
      case round =>
        obtain ⟨r, hr, rfl, hnb, hbo, hn2⟩ := hrel
        have Hr := Lib.hid hr
        have Hn2 := Lib.hid hn2
        have Hbo := Lib.hid hbo
        clear hr hn2 hbo
        have nb := hnb; have nb0 := nb.at0; have nb1 := nb.at1; have nbg := nb.1; have Hnb := Lib.hid nb; clear nb
        clear hnb
        by_cases hlt : r ≤ ch.length + 1
        · have hltb : decide ((r : Int) ≤ (ch.length : Int) + 1) = true := decide_eq_true (by omega)
          go_wp2_with fail
          go_loopg [11, 12, 13, 14, 15] n.links.length (fun q c i u13 u14 u15 wq => ∃ (j : Nat) (b : Bool), j + q = n.links.length ∧ c = .bool b ∧ i = .int .i64 j ∧ Boxed wq w.heap.size [s, .slice Ak n.links.length ck] ∧
            BoSt w ch.length g1 g2 (.slice A1 ch.length cu1) (.slice A2 ch.length cu2) (loTo n.links (loX n.links (frsL ch) r) j) (upTo n.links (upX n.links (tosL ch) r) j) wq ∧
            (b = true ↔ (loTo n.links (loX n.links (frsL ch) r) j ≠ loX n.links (frsL ch) r ∨ upTo n.links (upX n.links (tosL ch) r) j ≠ upX n.links (tosL ch) r)))
          case atStart => exact ⟨0, false, by omega, rfl, rfl, Hnb.out, Hbo.out, ⟨(fun h => by cases h), (fun h => h.elim (fun h => absurd rfl h) (fun h => absurd rfl h))⟩⟩
          clear nb0 nb1 nbg Hnb Hbo
          case round =>
            obtain ⟨j, b, hj, rfl, rfl, hnb, hbo, hbx⟩ := hrel
            have Hj := Lib.hid hj
            have Hbx := Lib.hid hbx
            have Hbo := Lib.hid hbo
            have hxr := hbo.ext
            clear hj hbx hbo
            have nb := hnb; have nb0 := nb.at0; have nb1 := nb.at1; have nbg := nb.1; have Hnb := Lib.hid nb; clear nb
            clear hnb
            by_cases hjl : j < n.links.length
            · obtain ⟨bl, offl, rfl, _, hbl, h1, h2, h3, h4⟩ := (H.out.2.ext hxr (Nat.le_refl _)).at_ hjl
              have Hlk := Lib.hid (Hlks.out j hjl)
              obtain ⟨⟨l1, l2⟩, ⟨l3, l4⟩, _, ⟨l5, l6⟩, ⟨l7, l8⟩, _⟩ := Hlk.out
              have hN : 0 < ch.length := by omega
              obtain ⟨hg1, hg2, hg12⟩ := Hne.out hN
              obtain ⟨off1, rfl, -⟩ := Hbo.out.low.at_ hN
              obtain ⟨off2, rfl, -⟩ := Hbo.out.high.at_ hN
              have HyL : Hid ((loTo n.links (loX n.links (frsL ch) r) j).length = ch.length) := Lib.hid (by rw [loTo_len, loX_len, frsL_len])
              have HzL : Hid ((upTo n.links (upX n.links (tosL ch) r) j).length = ch.length) := Lib.hid (by rw [upTo_len, upX_len, tosL_len])
              have Hyb := Lib.hid (lo_bnd (r := r) (j := j) Hlks.out Hsp.out h8 h20 (by omega) (by omega))
              have Hzb := Lib.hid (hi_bnd (r := r) (j := j) Hlks.out Hsp.out h8 h20 (by omega) (by omega))
              have Hln := Lib.hid (lo_ne Hlk.out (by rw [loX_len, frsL_len]) HyL.out (fun i => loTo_ge n.links (loX n.links (frsL ch) r) i (j := j) (by omega)))
              have Hun := Lib.hid (up_ne Hlk.out (by rw [upX_len, tosL_len]) HzL.out (fun i => upTo_le n.links (upX n.links (tosL ch) r) i j))
              generalize hyy : loTo n.links (loX n.links (frsL ch) r) j = y at Hbo HyL Hyb Hln Hbx
              generalize hzz : upTo n.links (upX n.links (tosL ch) r) j = z at Hbo HzL Hzb Hun Hbx
              have Hy := Lib.hid hyy
              have Hz := Lib.hid hzz
              clear hyy hzz
              have hafN : (lkAt n.links j).af < (ch.length : Int) := by omega
              have hbeN : (lkAt n.links j).be < (ch.length : Int) := by omega
              go_wp2_with fail
              (refine wp_region_onto prog_mixed (by kernel_rfl) ?_; (repeat (go_big_quiet_step ((fail)))); refine onto_end ?_; intro wl hxl)
              have hxrl : Ext wr wl := (by repeat (first | exact Ext.refl _ | assumption | refine Ext.alloc ?_ _ | refine Ext.drew ?_ | refine Ext.drewN ?_ _ | refine Ext.setCell ?_ (by first | (simp; done) | (simp; omega) | omega) _ | refine Ext.trans ?_ (by assumption)))
              have Hst1 := Lib.hid (Hbo.out.more hxrl)
              have Hnb1 := Lib.hid (Hnb.out.ext hxrl)
              have Hlb1 := Lib.hid ((Boxed.new wr [.int .i64 (lkAt n.links j).be, .int .i64 (lkAt n.links j).af, .int .i64 (lkAt n.links j).le, .int .i64 (lkAt n.links j).mo] 118).ext (show Ext _ wl from (by repeat (first | exact Ext.refl _ | assumption | refine Ext.alloc ?_ _ | refine Ext.drew ?_ | refine Ext.drewN ?_ _ | refine Ext.setCell ?_ (by first | (simp; done) | (simp; omega) | omega) _ | refine Ext.trans ?_ (by assumption)))))
              have hw1 : w.heap.size < wr.heap.size := nbg
              have hgw1 : g1 < wr.heap.size := Hbo.out.low.lt hN
              have hgw2 : g2 < wr.heap.size := Hbo.out.high.lt hN
              clear h1 h2 h3 h4 nb0 nb1 nbg Hnb Hbo hxl hxrl hxr hbl
              obtain ⟨y1, hy1⟩ : ∃ y1, lo1 (lkAt n.links j) y = y1 := ⟨_, rfl⟩
              have Hd1 := Lib.hid hy1
              clear hy1
              obtain ⟨y2, hy2⟩ : ∃ y2, lo2 (lkAt n.links j) y = y2 := ⟨_, rfl⟩
              have Hd2 := Lib.hid hy2
              clear hy2
              obtain ⟨z1, hz1⟩ : ∃ z1, up1 (lkAt n.links j) z = z1 := ⟨_, rfl⟩
              have Hd3 := Lib.hid hz1
              clear hz1
              obtain ⟨z2, hz2⟩ : ∃ z2, up2 (lkAt n.links j) z = z2 := ⟨_, rfl⟩
              have Hd4 := Lib.hid hz2
              clear hz2
              have Hy1b := Lib.hid (lo1_bnd Hlk.out Hyb.out)
              rw [Hd1.out] at Hy1b
              have Hz1b := Lib.hid (up1_bnd Hlk.out Hzb.out)
              rw [Hd3.out] at Hz1b
              have Hlen1 : Hid (y.length = ch.length) := HyL
              have Hlen2 : Hid (y1.length = ch.length) := Lib.hid (by rw [← Hd1.out, lo1_len]; exact HyL.out)
              have Hlen3 : Hid (z.length = ch.length) := HzL
              have Hlen4 : Hid (z1.length = ch.length) := Lib.hid (by rw [← Hd3.out]; exact (relax_len _ _ _ _).trans HzL.out)
              obtain ⟨ya1, ya2⟩ := Hyb.out (lkAt n.links j).af.toNat (by omega)
              obtain ⟨ya3, ya4⟩ := Hyb.out (lkAt n.links j).be.toNat (by omega)
              obtain ⟨yb1, yb2⟩ := Hy1b.out (lkAt n.links j).af.toNat (by omega)
              obtain ⟨yb3, yb4⟩ := Hy1b.out (lkAt n.links j).be.toNat (by omega)
              obtain ⟨za1, za2⟩ := Hzb.out (lkAt n.links j).af.toNat (by omega)
              obtain ⟨za3, za4⟩ := Hzb.out (lkAt n.links j).be.toNat (by omega)
              obtain ⟨zb1, zb2⟩ := Hz1b.out (lkAt n.links j).af.toNat (by omega)
              obtain ⟨zb3, zb4⟩ := Hz1b.out (lkAt n.links j).be.toNat (by omega)
              have nb := Hnb1.out; have nb0 := nb.at0; have nb1 := nb.at1; have nbg := nb.1; have Hnb := Lib.hid nb; clear nb
              have lb := Hlb1.out; have lb0 := lb.at0; have lb1 := lb.at1; have lb2 := lb.at2; have lb3 := lb.at3; have lbg := lb.1; have Hlb := Lib.hid lb; clear lb
              obtain ⟨_, hc⟩ := Hst1.out.low.cells (by omega)
              have cA : wl.cell? ⟨g1, off1 + (lkAt n.links j).af.toNat, none⟩ = some (.int .i64 (inAt y (lkAt n.links j).af.toNat)) := (hc _ (by omega)).1
              have cB : wl.cell? ⟨g1, off1 + (lkAt n.links j).be.toNat, none⟩ = some (.int .i64 (inAt y (lkAt n.links j).be.toNat)) := (hc _ (by omega)).1
              clear hc
              go_wp2_with fail
              (refine wp_region_onto prog_mixed (by kernel_rfl) ?_; (repeat (go_big_quiet_step ((fail)))); refine onto_end ?_; intro wq1 hq1)
              have hxq1 : Ext wl wq1 := (by repeat (first | exact Ext.refl _ | assumption | refine Ext.alloc ?_ _ | refine Ext.drew ?_ | refine Ext.drewN ?_ _ | refine Ext.setCell ?_ (by first | (simp; done) | (simp; omega) | omega) _ | refine Ext.trans ?_ (by assumption)))
              go_upto_if 75 with fail
              go_cut [11] (fun c wy => ∃ b' : Bool, c = .bool b' ∧ (b' = true ↔ (b = true ∨ inAt y (lkAt n.links j).af.toNat < inAt y (lkAt n.links j).be.toNat + (lkAt n.links j).le)) ∧ Boxed wy w.heap.size [s, .slice (some ⟨bl, offl, none⟩) n.links.length ck] ∧ Boxed wy wr.heap.size [.int .i64 (lkAt n.links j).be, .int .i64 (lkAt n.links j).af, .int .i64 (lkAt n.links j).le, .int .i64 (lkAt n.links j).mo] ∧ BoSt w ch.length g1 g2 (.slice (some ⟨g1, off1, none⟩) ch.length cu1) (.slice (some ⟨g2, off2, none⟩) ch.length cu2) y1 z wy)
              case first =>
                have Hst' := Lib.hid (Hst1.out.more hxq1)
                have Hnb' := Lib.hid (Hnb.out.ext hxq1)
                have Hlb' := Lib.hid (Hlb.out.ext hxq1)
                clear cA cB nb0 nb1 nbg lb0 lb1 lb2 lb3 lbg Hnb Hlb
                have nb := Hnb'.out; have nb0 := nb.at0; have nb1 := nb.at1; have nbg := nb.1; have Hnb := Lib.hid nb; clear nb
                have lb := Hlb'.out; have lb0 := lb.at0; have lb1 := lb.at1; have lb2 := lb.at2; have lb3 := lb.at3; have lbg := lb.1; have Hlb := Lib.hid lb; clear lb
                obtain ⟨_, hc⟩ := Hst'.out.low.cells (by omega)
                have cA : wq1.cell? ⟨g1, off1 + (lkAt n.links j).af.toNat, none⟩ = some (.int .i64 (inAt y (lkAt n.links j).af.toNat)) := (hc _ (by omega)).1
                have cB : wq1.cell? ⟨g1, off1 + (lkAt n.links j).be.toNat, none⟩ = some (.int .i64 (inAt y (lkAt n.links j).be.toNat)) := (hc _ (by omega)).1
                have fA : wq1.frozen? ⟨g1, off1 + (lkAt n.links j).af.toNat, none⟩ = false := (hc _ (by omega)).2
                have fB : wq1.frozen? ⟨g1, off1 + (lkAt n.links j).be.toNat, none⟩ = false := (hc _ (by omega)).2
                clear hc
                by_cases t : inAt y (lkAt n.links j).af.toNat < inAt y (lkAt n.links j).be.toNat + (lkAt n.links j).le
                · have T1 : decide (inAt y (lkAt n.links j).af.toNat < inAt y (lkAt n.links j).be.toNat + (lkAt n.links j).le) = true := decide_eq_true t
                  have Ht := Lib.hid t
                  go_wp2_with fail
                  go_still_tail 10, (by kernel_rfl)
                  go_wp2_with fail
                  go_meet
                  have e4 : lo1 (lkAt n.links j) y = y.set (lkAt n.links j).af.toNat (inAt y (lkAt n.links j).be.toNat + (lkAt n.links j).le) := lift_yes (by have := Ht.out; omega)
                  have e5 : y1 = y.set (lkAt n.links j).af.toNat (inAt y (lkAt n.links j).be.toNat + (lkAt n.links j).le) := by rw [← Hd1.out]; exact e4
                  refine ⟨true, rfl, ⟨fun _ => .inr Ht.out, fun _ => rfl⟩, (Hnb.out.setOther (by show _ ≠ g1; omega) _).ext ((Ext.refl _).drew), (Hlb.out.setOther (by show _ ≠ g1; omega) _).ext ((Ext.refl _).drew), ?_⟩
                  rw [e5]
                  exact (Hst'.out.setLow (by omega) (by omega) (by omega) (by exact Hlen1.out) _).more ((Ext.refl _).drew)
                · have T1 : decide (inAt y (lkAt n.links j).af.toNat < inAt y (lkAt n.links j).be.toNat + (lkAt n.links j).le) = false := decide_eq_false t
                  have Ht := Lib.hid t
                  go_wp2_with fail
                  go_meet
                  have e4 : lo1 (lkAt n.links j) y = y := lift_no (by have := Ht.out; omega)
                  have e5 : y1 = y := by rw [← Hd1.out]; exact e4
                  refine ⟨b, rfl, ⟨fun h => .inl h, fun h => h.elim id (fun h => absurd h (by have := Ht.out; omega))⟩, Hnb.out, Hlb.out, ?_⟩
                  rw [e5]
                  exact Hst'.out
              obtain ⟨wx1, rfl⟩ : ∃ x : World, x = wc := ⟨_, rfl⟩
              obtain ⟨b1, rfl, hb2, hnb, hlb, hst⟩ := hcut
              have Hb2 := Lib.hid hb2
              clear hb2 cA cB nb0 nb1 nbg lb0 lb1 lb2 lb3 lbg Hnb Hlb Hst1 hxq1 hq1
              have Hst2 := Lib.hid hst
              have Hnb2 := Lib.hid hnb
              have Hlb2 := Lib.hid hlb
              clear hst hnb hlb
              have nb := Hnb2.out; have nb0 := nb.at0; have nb1 := nb.at1; have nbg := nb.1; have Hnb := Lib.hid nb; clear nb
              have lb := Hlb2.out; have lb0 := lb.at0; have lb1 := lb.at1; have lb2 := lb.at2; have lb3 := lb.at3; have lbg := lb.1; have Hlb := Lib.hid lb; clear lb
              obtain ⟨_, hc⟩ := Hst2.out.low.cells (by omega)
              have cA : wx1.cell? ⟨g1, off1 + (lkAt n.links j).af.toNat, none⟩ = some (.int .i64 (inAt y1 (lkAt n.links j).af.toNat)) := (hc _ (by omega)).1
              have cB : wx1.cell? ⟨g1, off1 + (lkAt n.links j).be.toNat, none⟩ = some (.int .i64 (inAt y1 (lkAt n.links j).be.toNat)) := (hc _ (by omega)).1
              clear hc
              go_wp2_with fail
              (refine wp_region_onto prog_mixed (by kernel_rfl) ?_; (repeat (go_big_quiet_step ((fail)))); refine onto_end ?_; intro wq2 hq2)
              have hxq2 : Ext wx1 wq2 := (by repeat (first | exact Ext.refl _ | assumption | refine Ext.alloc ?_ _ | refine Ext.drew ?_ | refine Ext.drewN ?_ _ | refine Ext.setCell ?_ (by first | (simp; done) | (simp; omega) | omega) _ | refine Ext.trans ?_ (by assumption)))
              go_upto_if 97 with fail
              go_cut [11] (fun c wy => ∃ b' : Bool, c = .bool b' ∧ (b' = true ↔ (b1 = true ∨ inAt y1 (lkAt n.links j).be.toNat < inAt y1 (lkAt n.links j).af.toNat - (lkAt n.links j).mo)) ∧ Boxed wy w.heap.size [s, .slice (some ⟨bl, offl, none⟩) n.links.length ck] ∧ Boxed wy wr.heap.size [.int .i64 (lkAt n.links j).be, .int .i64 (lkAt n.links j).af, .int .i64 (lkAt n.links j).le, .int .i64 (lkAt n.links j).mo] ∧ BoSt w ch.length g1 g2 (.slice (some ⟨g1, off1, none⟩) ch.length cu1) (.slice (some ⟨g2, off2, none⟩) ch.length cu2) y2 z wy)
              case first =>
                have Hst' := Lib.hid (Hst2.out.more hxq2)
                have Hnb' := Lib.hid (Hnb.out.ext hxq2)
                have Hlb' := Lib.hid (Hlb.out.ext hxq2)
                clear cA cB nb0 nb1 nbg lb0 lb1 lb2 lb3 lbg Hnb Hlb
                have nb := Hnb'.out; have nb0 := nb.at0; have nb1 := nb.at1; have nbg := nb.1; have Hnb := Lib.hid nb; clear nb
                have lb := Hlb'.out; have lb0 := lb.at0; have lb1 := lb.at1; have lb2 := lb.at2; have lb3 := lb.at3; have lbg := lb.1; have Hlb := Lib.hid lb; clear lb
                obtain ⟨_, hc⟩ := Hst'.out.low.cells (by omega)
                have cA : wq2.cell? ⟨g1, off1 + (lkAt n.links j).af.toNat, none⟩ = some (.int .i64 (inAt y1 (lkAt n.links j).af.toNat)) := (hc _ (by omega)).1
                have cB : wq2.cell? ⟨g1, off1 + (lkAt n.links j).be.toNat, none⟩ = some (.int .i64 (inAt y1 (lkAt n.links j).be.toNat)) := (hc _ (by omega)).1
                have fA : wq2.frozen? ⟨g1, off1 + (lkAt n.links j).af.toNat, none⟩ = false := (hc _ (by omega)).2
                have fB : wq2.frozen? ⟨g1, off1 + (lkAt n.links j).be.toNat, none⟩ = false := (hc _ (by omega)).2
                clear hc
                by_cases t : inAt y1 (lkAt n.links j).be.toNat < inAt y1 (lkAt n.links j).af.toNat - (lkAt n.links j).mo
                · have T1 : decide (inAt y1 (lkAt n.links j).be.toNat < inAt y1 (lkAt n.links j).af.toNat - (lkAt n.links j).mo) = true := decide_eq_true t
                  have Ht := Lib.hid t
                  go_wp2_with fail
                  go_still_tail 10, (by kernel_rfl)
                  go_wp2_with fail
                  go_meet
                  have e4 : lo2 (lkAt n.links j) y = y1.set (lkAt n.links j).be.toNat (inAt y1 (lkAt n.links j).af.toNat - (lkAt n.links j).mo) := by unfold lo2; rw [Hd1.out, lift_yes (by have := Ht.out; omega), Int.sub_eq_add_neg]
                  have e5 : y2 = y1.set (lkAt n.links j).be.toNat (inAt y1 (lkAt n.links j).af.toNat - (lkAt n.links j).mo) := by rw [← Hd2.out]; exact e4
                  refine ⟨true, rfl, ⟨fun _ => .inr Ht.out, fun _ => rfl⟩, (Hnb.out.setOther (by show _ ≠ g1; omega) _).ext ((Ext.refl _).drew), (Hlb.out.setOther (by show _ ≠ g1; omega) _).ext ((Ext.refl _).drew), ?_⟩
                  rw [e5]
                  exact (Hst'.out.setLow (by omega) (by omega) (by omega) (by exact Hlen2.out) _).more ((Ext.refl _).drew)
                · have T1 : decide (inAt y1 (lkAt n.links j).be.toNat < inAt y1 (lkAt n.links j).af.toNat - (lkAt n.links j).mo) = false := decide_eq_false t
                  have Ht := Lib.hid t
                  go_wp2_with fail
                  go_meet
                  have e4 : lo2 (lkAt n.links j) y = y1 := by unfold lo2; rw [Hd1.out, lift_no (by have := Ht.out; omega)]
                  have e5 : y2 = y1 := by rw [← Hd2.out]; exact e4
                  refine ⟨b1, rfl, ⟨fun h => .inl h, fun h => h.elim id (fun h => absurd h (by have := Ht.out; omega))⟩, Hnb.out, Hlb.out, ?_⟩
                  rw [e5]
                  exact Hst'.out
              obtain ⟨wx2, rfl⟩ : ∃ x : World, x = wc := ⟨_, rfl⟩
              obtain ⟨b2, rfl, hb3, hnb, hlb, hst⟩ := hcut
              have Hb3 := Lib.hid hb3
              clear hb3 cA cB nb0 nb1 nbg lb0 lb1 lb2 lb3 lbg Hnb Hlb Hst2 hxq2 hq2
              have Hst3 := Lib.hid hst
              have Hnb3 := Lib.hid hnb
              have Hlb3 := Lib.hid hlb
              clear hst hnb hlb
              have nb := Hnb3.out; have nb0 := nb.at0; have nb1 := nb.at1; have nbg := nb.1; have Hnb := Lib.hid nb; clear nb
              have lb := Hlb3.out; have lb0 := lb.at0; have lb1 := lb.at1; have lb2 := lb.at2; have lb3 := lb.at3; have lbg := lb.1; have Hlb := Lib.hid lb; clear lb
              obtain ⟨_, hc⟩ := Hst3.out.high.cells (by omega)
              have cA : wx2.cell? ⟨g2, off2 + (lkAt n.links j).af.toNat, none⟩ = some (.int .i64 (inAt z (lkAt n.links j).af.toNat)) := (hc _ (by omega)).1
              have cB : wx2.cell? ⟨g2, off2 + (lkAt n.links j).be.toNat, none⟩ = some (.int .i64 (inAt z (lkAt n.links j).be.toNat)) := (hc _ (by omega)).1
              clear hc
              go_wp2_with fail
              (refine wp_region_onto prog_mixed (by kernel_rfl) ?_; (repeat (go_big_quiet_step ((fail)))); refine onto_end ?_; intro wq3 hq3)
              have hxq3 : Ext wx2 wq3 := (by repeat (first | exact Ext.refl _ | assumption | refine Ext.alloc ?_ _ | refine Ext.drew ?_ | refine Ext.drewN ?_ _ | refine Ext.setCell ?_ (by first | (simp; done) | (simp; omega) | omega) _ | refine Ext.trans ?_ (by assumption)))
              go_upto_if 119 with fail
              go_cut [11] (fun c wy => ∃ b' : Bool, c = .bool b' ∧ (b' = true ↔ (b2 = true ∨ inAt z (lkAt n.links j).be.toNat + (lkAt n.links j).mo < inAt z (lkAt n.links j).af.toNat)) ∧ Boxed wy w.heap.size [s, .slice (some ⟨bl, offl, none⟩) n.links.length ck] ∧ Boxed wy wr.heap.size [.int .i64 (lkAt n.links j).be, .int .i64 (lkAt n.links j).af, .int .i64 (lkAt n.links j).le, .int .i64 (lkAt n.links j).mo] ∧ BoSt w ch.length g1 g2 (.slice (some ⟨g1, off1, none⟩) ch.length cu1) (.slice (some ⟨g2, off2, none⟩) ch.length cu2) y2 z1 wy)
              case first =>
                have Hst' := Lib.hid (Hst3.out.more hxq3)
                have Hnb' := Lib.hid (Hnb.out.ext hxq3)
                have Hlb' := Lib.hid (Hlb.out.ext hxq3)
                clear cA cB nb0 nb1 nbg lb0 lb1 lb2 lb3 lbg Hnb Hlb
                have nb := Hnb'.out; have nb0 := nb.at0; have nb1 := nb.at1; have nbg := nb.1; have Hnb := Lib.hid nb; clear nb
                have lb := Hlb'.out; have lb0 := lb.at0; have lb1 := lb.at1; have lb2 := lb.at2; have lb3 := lb.at3; have lbg := lb.1; have Hlb := Lib.hid lb; clear lb
                obtain ⟨_, hc⟩ := Hst'.out.high.cells (by omega)
                have cA : wq3.cell? ⟨g2, off2 + (lkAt n.links j).af.toNat, none⟩ = some (.int .i64 (inAt z (lkAt n.links j).af.toNat)) := (hc _ (by omega)).1
                have cB : wq3.cell? ⟨g2, off2 + (lkAt n.links j).be.toNat, none⟩ = some (.int .i64 (inAt z (lkAt n.links j).be.toNat)) := (hc _ (by omega)).1
                have fA : wq3.frozen? ⟨g2, off2 + (lkAt n.links j).af.toNat, none⟩ = false := (hc _ (by omega)).2
                have fB : wq3.frozen? ⟨g2, off2 + (lkAt n.links j).be.toNat, none⟩ = false := (hc _ (by omega)).2
                clear hc
                by_cases t : inAt z (lkAt n.links j).be.toNat + (lkAt n.links j).mo < inAt z (lkAt n.links j).af.toNat
                · have T1 : decide (inAt z (lkAt n.links j).be.toNat + (lkAt n.links j).mo < inAt z (lkAt n.links j).af.toNat) = true := decide_eq_true t
                  have Ht := Lib.hid t
                  go_wp2_with fail
                  go_still_tail 10, (by kernel_rfl)
                  go_wp2_with fail
                  go_meet
                  have e4 : up1 (lkAt n.links j) z = z.set (lkAt n.links j).af.toNat (inAt z (lkAt n.links j).be.toNat + (lkAt n.links j).mo) := relax_yes (by have := Ht.out; omega)
                  have e5 : z1 = z.set (lkAt n.links j).af.toNat (inAt z (lkAt n.links j).be.toNat + (lkAt n.links j).mo) := by rw [← Hd3.out]; exact e4
                  refine ⟨true, rfl, ⟨fun _ => .inr Ht.out, fun _ => rfl⟩, (Hnb.out.setOther (by show _ ≠ g2; omega) _).ext ((Ext.refl _).drew), (Hlb.out.setOther (by show _ ≠ g2; omega) _).ext ((Ext.refl _).drew), ?_⟩
                  rw [e5]
                  exact (Hst'.out.setHigh (by omega) (by omega) (by omega) (by exact Hlen3.out) _).more ((Ext.refl _).drew)
                · have T1 : decide (inAt z (lkAt n.links j).be.toNat + (lkAt n.links j).mo < inAt z (lkAt n.links j).af.toNat) = false := decide_eq_false t
                  have Ht := Lib.hid t
                  go_wp2_with fail
                  go_meet
                  have e4 : up1 (lkAt n.links j) z = z := relax_no (by have := Ht.out; omega)
                  have e5 : z1 = z := by rw [← Hd3.out]; exact e4
                  refine ⟨b2, rfl, ⟨fun h => .inl h, fun h => h.elim id (fun h => absurd h (by have := Ht.out; omega))⟩, Hnb.out, Hlb.out, ?_⟩
                  rw [e5]
                  exact Hst'.out
              obtain ⟨wx3, rfl⟩ : ∃ x : World, x = wc := ⟨_, rfl⟩
              obtain ⟨b3, rfl, hb4, hnb, hlb, hst⟩ := hcut
              have Hb4 := Lib.hid hb4
              clear hb4 cA cB nb0 nb1 nbg lb0 lb1 lb2 lb3 lbg Hnb Hlb Hst3 hxq3 hq3
              have Hst4 := Lib.hid hst
              have Hnb4 := Lib.hid hnb
              have Hlb4 := Lib.hid hlb
              clear hst hnb hlb
              have nb := Hnb4.out; have nb0 := nb.at0; have nb1 := nb.at1; have nbg := nb.1; have Hnb := Lib.hid nb; clear nb
              have lb := Hlb4.out; have lb0 := lb.at0; have lb1 := lb.at1; have lb2 := lb.at2; have lb3 := lb.at3; have lbg := lb.1; have Hlb := Lib.hid lb; clear lb
              obtain ⟨_, hc⟩ := Hst4.out.high.cells (by omega)
              have cA : wx3.cell? ⟨g2, off2 + (lkAt n.links j).af.toNat, none⟩ = some (.int .i64 (inAt z1 (lkAt n.links j).af.toNat)) := (hc _ (by omega)).1
              have cB : wx3.cell? ⟨g2, off2 + (lkAt n.links j).be.toNat, none⟩ = some (.int .i64 (inAt z1 (lkAt n.links j).be.toNat)) := (hc _ (by omega)).1
              clear hc
              go_wp2_with fail
              (refine wp_region_onto prog_mixed (by kernel_rfl) ?_; (repeat (go_big_quiet_step ((fail)))); refine onto_end ?_; intro wq4 hq4)
              have hxq4 : Ext wx3 wq4 := (by repeat (first | exact Ext.refl _ | assumption | refine Ext.alloc ?_ _ | refine Ext.drew ?_ | refine Ext.drewN ?_ _ | refine Ext.setCell ?_ (by first | (simp; done) | (simp; omega) | omega) _ | refine Ext.trans ?_ (by assumption)))
              have Hst' := Lib.hid (Hst4.out.more hxq4)
              have Hnb' := Lib.hid (Hnb.out.ext hxq4)
              have Hlb' := Lib.hid (Hlb.out.ext hxq4)
              clear cA cB nb0 nb1 nbg lb0 lb1 lb2 lb3 lbg Hnb Hlb
              have nb := Hnb'.out; have nb0 := nb.at0; have nb1 := nb.at1; have nbg := nb.1; have Hnb := Lib.hid nb; clear nb
              have lb := Hlb'.out; have lb0 := lb.at0; have lb1 := lb.at1; have lb2 := lb.at2; have lb3 := lb.at3; have lbg := lb.1; have Hlb := Lib.hid lb; clear lb
              obtain ⟨_, hc⟩ := Hst'.out.high.cells (by omega)
              have cA : wq4.cell? ⟨g2, off2 + (lkAt n.links j).af.toNat, none⟩ = some (.int .i64 (inAt z1 (lkAt n.links j).af.toNat)) := (hc _ (by omega)).1
              have cB : wq4.cell? ⟨g2, off2 + (lkAt n.links j).be.toNat, none⟩ = some (.int .i64 (inAt z1 (lkAt n.links j).be.toNat)) := (hc _ (by omega)).1
              have fA : wq4.frozen? ⟨g2, off2 + (lkAt n.links j).af.toNat, none⟩ = false := (hc _ (by omega)).2
              have fB : wq4.frozen? ⟨g2, off2 + (lkAt n.links j).be.toNat, none⟩ = false := (hc _ (by omega)).2
              clear hc
              have e3 : loTo n.links (loX n.links (frsL ch) r) (j + 1) = y2 := by show lo2 _ (loTo _ _ _) = _; rw [Hy.out, Hd2.out]
              have e6 : upTo n.links (upX n.links (tosL ch) r) (j + 1) = z2 := by show up2 _ (upTo _ _ _) = _; rw [Hz.out, Hd4.out]
              have He3 := Lib.hid e3
              have He6 := Lib.hid e6
              clear e3 e6
              by_cases t : inAt z1 (lkAt n.links j).af.toNat - (lkAt n.links j).le < inAt z1 (lkAt n.links j).be.toNat
              · have T1 : decide (inAt z1 (lkAt n.links j).af.toNat - (lkAt n.links j).le < inAt z1 (lkAt n.links j).be.toNat) = true := decide_eq_true t
                have Ht := Lib.hid t
                go_wp2_with fail
                go_still_tail 10, (by kernel_rfl)
                go_wp2_with fail
                clear t
                have Hb5 : Hid (true = true ↔ (b3 = true ∨ inAt z1 (lkAt n.links j).af.toNat - (lkAt n.links j).le < inAt z1 (lkAt n.links j).be.toNat)) := Lib.hid ⟨fun _ => .inr Ht.out, fun _ => rfl⟩
                go_roundg (n.links.length - (j + 1))
                case measure => have := Hj.out; omega
                case rel =>
                  refine ⟨j + 1, true, by have := Hj.out; omega, rfl, by go_num, (Hnb.out.setOther (by show _ ≠ g2; omega) _).ext ((Ext.refl _).drew), ?_, ?_⟩
                  · have e4 : up2 (lkAt n.links j) z = z1.set (lkAt n.links j).be.toNat (inAt z1 (lkAt n.links j).af.toNat - (lkAt n.links j).le) := by unfold up2; rw [Hd3.out, relax_yes (by have := Ht.out; omega), Int.sub_eq_add_neg]
                    have e5 : z2 = z1.set (lkAt n.links j).be.toNat (inAt z1 (lkAt n.links j).af.toNat - (lkAt n.links j).le) := by rw [← Hd4.out]; exact e4
                    rw [He3.out, He6.out, e5]; exact (Hst'.out.setHigh (by omega) (by omega) (by omega) (by exact Hlen4.out) _).more ((Ext.refl _).drew)
                  · rw [He3.out, He6.out]
                    have ht := turn_ne (l := lkAt n.links j) (x := loX n.links (frsL ch) r) (y := y) (y1 := y1) (y2 := y2) (x' := upX n.links (tosL ch) r) (z := z) (z1 := z1) (z2 := z2) Hln.out Hun.out Hd1.out Hd2.out Hd3.out Hd4.out
                    have hq := turn_all Hb5.out Hb4.out Hb3.out Hb2.out Hbx.out
                    exact hq.trans ht
              · have T1 : decide (inAt z1 (lkAt n.links j).af.toNat - (lkAt n.links j).le < inAt z1 (lkAt n.links j).be.toNat) = false := decide_eq_false t
                have Ht := Lib.hid t
                go_wp2_with fail
                clear t
                have Hb5 : Hid (b3 = true ↔ (b3 = true ∨ inAt z1 (lkAt n.links j).af.toNat - (lkAt n.links j).le < inAt z1 (lkAt n.links j).be.toNat)) := Lib.hid ⟨fun h => .inl h, fun h => h.elim id (fun h => absurd h (by have := Ht.out; omega))⟩
                go_roundg (n.links.length - (j + 1))
                case measure => have := Hj.out; omega
                case rel =>
                  refine ⟨j + 1, b3, by have := Hj.out; omega, rfl, by go_num, Hnb.out, ?_, ?_⟩
                  · have e4 : up2 (lkAt n.links j) z = z1 := by unfold up2; rw [Hd3.out, relax_no (by have := Ht.out; omega)]
                    have e5 : z2 = z1 := by rw [← Hd4.out]; exact e4
                    rw [He3.out, He6.out, e5]; exact Hst'.out
                  · rw [He3.out, He6.out]
                    have ht := turn_ne (l := lkAt n.links j) (x := loX n.links (frsL ch) r) (y := y) (y1 := y1) (y2 := y2) (x' := upX n.links (tosL ch) r) (z := z) (z1 := z1) (z2 := z2) Hln.out Hun.out Hd1.out Hd2.out Hd3.out Hd4.out
                    have hq := turn_all Hb5.out Hb4.out Hb3.out Hb2.out Hbx.out
                    exact hq.trans ht
            · obtain rfl : j = n.links.length := by have := Hj.out; omega
              have Hbo2 : Hid (BoSt w ch.length g1 g2 (.slice A1 ch.length cu1) (.slice A2 ch.length cu2) (loX n.links (frsL ch) (r + 1)) (upX n.links (tosL ch) (r + 1)) wr) := Lib.hid Hbo.out
              have Hbx2 : Hid (b = true ↔ ¬ Still2 n.links n.links ch r) := Lib.hid (Hbx.out.trans (not_still n.links n.links ch r))
              have Hlob : Hid (∀ i, i < ch.length → 0 ≤ inAt (loX n.links (frsL ch) (r + 1)) i ∧ inAt (loX n.links (frsL ch) (r + 1)) i ≤ 500000000) := Lib.hid (lo_bnd (r := r + 1) (j := 0) Hlks.out Hsp.out h8 h20 (by omega) (by omega))
              have Hhib : Hid (∀ i, i < ch.length → -500000000 ≤ inAt (upX n.links (tosL ch) (r + 1)) i ∧ inAt (upX n.links (tosL ch) (r + 1)) i ≤ 730499) := Lib.hid (hi_bnd (r := r + 1) (j := 0) Hlks.out Hsp.out h8 h20 (by omega) (by omega))
              clear Hbo Hbx
              go_wp2_with fail
              go_loopg [16] ch.length (fun q i wq => ∃ t : Nat, t + q = ch.length ∧ i = .int .i64 t ∧ Boxed wq w.heap.size [s, .slice Ak n.links.length ck] ∧ BoSt w ch.length g1 g2 (.slice A1 ch.length cu1) (.slice A2 ch.length cu2) (loX n.links (frsL ch) (r + 1)) (upX n.links (tosL ch) (r + 1)) wq ∧ NoX n.links ch (r + 1) t)
              case atStart => exact ⟨0, by omega, rfl, Hnb.out, Hbo2.out, fun i hi => absurd hi (by omega)⟩
              clear nb0 nb1 nbg Hnb Hbo2 hxr
              case round =>
                obtain ⟨t, ht, rfl, hnb, hbo, hnx⟩ := hrel
                have Hnx := Lib.hid hnx
                have Ht := Lib.hid ht
                have Hbo := Lib.hid hbo
                have hxr := hbo.ext
                clear hnx ht hbo
                have nb := hnb; have nb0 := nb.at0; have nb1 := nb.at1; have nbg := nb.1; have Hnb := Lib.hid nb; clear nb
                clear hnb
                by_cases htl : t < ch.length
                · obtain ⟨bc, offc, rfl, _, hbc, c1, c2⟩ := (Hc.out.ext hxr (Nat.le_refl _)).at_ htl
                  have hN : 0 < ch.length := by omega
                  obtain ⟨off1, rfl, -⟩ := Hbo.out.low.at_ hN
                  obtain ⟨off2, rfl, -⟩ := Hbo.out.high.at_ hN
                  obtain ⟨_, hcl⟩ := Hbo.out.low.cells hN
                  obtain ⟨_, hch⟩ := Hbo.out.high.cells hN
                  have cL : wr.cell? ⟨g1, off1 + t, none⟩ = some (.int .i64 (inAt (loX n.links (frsL ch) (r + 1)) t)) := (hcl t htl).1
                  have cH : wr.cell? ⟨g2, off2 + t, none⟩ = some (.int .i64 (inAt (upX n.links (tosL ch) (r + 1)) t)) := (hch t htl).1
                  have hbcr : bc < wr.heap.size := by have := hxr.size; omega
                  have hgw1 : g1 < wr.heap.size := Hbo.out.low.lt hN
                  have hgw2 : g2 < wr.heap.size := Hbo.out.high.lt hN
                  obtain ⟨b1, b2⟩ := Hlob.out t htl
                  obtain ⟨b3, b4⟩ := Hhib.out t htl
                  have hsp := Hsp.out t htl
                  obtain ⟨⟨s1, s2⟩, ⟨s3, s4⟩, s5⟩ := hsp
                  clear hcl hch
                  by_cases t1 : (spAt ch t).to < inAt (loX n.links (frsL ch) (r + 1)) t
                  · have T1 : decide ((spAt ch t).to < inAt (loX n.links (frsL ch) (r + 1)) t) = true := decide_eq_true t1
                    have Hbad := Lib.hid (crossS_bad Hlks.out Hlks.out (alike_refl n.links) htl (r := r + 1) (.inl t1))
                    clear t1
                    go_wp2_with fail
                    (refine wp_region_onto prog_mixed (by kernel_rfl) ?_; (repeat (go_big_quiet_step ((fail)))); refine onto_end ?_; intro wq hxq)
                    go_wp2_with fail
                    refine bodyPost_ret (v := .tuple #[.slice none 0 0, .slice none 0 0, .bool false]) (by simp [results, Tryz.results200, go_sem, *]) rfl ?_
                    exact BoPost.no Hbad.out (by repeat (first | exact Ext.refl _ | assumption | refine Ext.alloc ?_ _ | refine Ext.drew ?_ | refine Ext.drewN ?_ _ | refine Ext.setCell ?_ (by first | (simp; done) | (simp; omega) | omega) _ | refine Ext.trans ?_ (by assumption)))
                  · have T1 : decide ((spAt ch t).to < inAt (loX n.links (frsL ch) (r + 1)) t) = false := decide_eq_false t1
                    by_cases t2 : inAt (upX n.links (tosL ch) (r + 1)) t < (spAt ch t).fr
                    · have T2 : decide (inAt (upX n.links (tosL ch) (r + 1)) t < (spAt ch t).fr) = true := decide_eq_true t2
                      have Hbad := Lib.hid (crossS_bad Hlks.out Hlks.out (alike_refl n.links) htl (r := r + 1) (.inr t2))
                      clear t1 t2
                      go_wp2_with fail
                      (refine wp_region_onto prog_mixed (by kernel_rfl) ?_; (repeat (go_big_quiet_step ((fail)))); refine onto_end ?_; intro wq hxq)
                      go_wp2_with fail
                      refine bodyPost_ret (v := .tuple #[.slice none 0 0, .slice none 0 0, .bool false]) (by simp [results, Tryz.results200, go_sem, *]) rfl ?_
                      exact BoPost.no Hbad.out (by repeat (first | exact Ext.refl _ | assumption | refine Ext.alloc ?_ _ | refine Ext.drew ?_ | refine Ext.drewN ?_ _ | refine Ext.setCell ?_ (by first | (simp; done) | (simp; omega) | omega) _ | refine Ext.trans ?_ (by assumption)))
                    · have T2 : decide (inAt (upX n.links (tosL ch) (r + 1)) t < (spAt ch t).fr) = false := decide_eq_false t2
                      have Hno := Lib.hid (show ¬ CrossS n.links n.links ch (r + 1) t from fun h => h.elim t1 t2)
                      clear t1 t2
                      go_wp2_with fail
                      (refine wp_region_onto prog_mixed (by kernel_rfl) ?_; (repeat (go_big_quiet_step ((fail)))); refine onto_end ?_; intro wq hxq)
                      go_wp2_with fail
                      have hxrq : Ext wr wq := (by repeat (first | exact Ext.refl _ | assumption | refine Ext.alloc ?_ _ | refine Ext.drew ?_ | refine Ext.drewN ?_ _ | refine Ext.setCell ?_ (by first | (simp; done) | (simp; omega) | omega) _ | refine Ext.trans ?_ (by assumption)))
                      go_roundg (ch.length - (t + 1))
                      case measure => have := Ht.out; omega
                      case rel => exact ⟨t + 1, by have := Ht.out; omega, by go_num, Hnb.out.ext hxrq, Hbo.out.more hxrq, Hnx.out.step Hno.out⟩
                · obtain rfl : t = ch.length := by have := Ht.out; omega
                  cases b
                  · go_wp2_with fail
                    refine bodyPost_ret (v := .tuple #[.slice A1 ch.length cu1, .slice A2 ch.length cu2, .bool true]) (by simp [results, Tryz.results200, go_sem, *]) rfl ?_
                    exact BoPost.yes Hlks.out Hlks.out (alike_refl n.links) (Classical.byContradiction (fun hh => by cases Hbx2.out.2 hh)) (crossS_free Hnx.out) Hbo.out (fun h0 => by have := Hne.out h0; omega)
                  · go_wp2_with fail
                    go_roundg (ch.length + 2 - (r + 1))
                    case measure => have := Hr.out; omega
                    case rel => exact ⟨r + 1, by have := Hr.out; omega, by go_num, Hnb.out, Hbo.out, Hn2.out.succ (Hbx2.out.1 (by first | rfl | trivial))⟩
        · have hr2 : ch.length + 1 < r := by omega
          have hltb : decide ((r : Int) ≤ (ch.length : Int) + 1) = false := decide_eq_false (by omega)
          have Hbad := Lib.hid (Hn2.out.bad Hlks.out Hlks.out (alike_refl n.links) (by omega))
          have hxr := Hbo.out.ext
          go_wp2_with fail
          refine bodyPost_ret (v := .tuple #[.slice none 0 0, .slice none 0 0, .bool false]) (by simp [results, Tryz.results200, go_sem, *]) rfl ?_
          exact BoPost.no Hbad.out (by repeat (first | exact Ext.refl _ | assumption | refine Ext.alloc ?_ _ | refine Ext.drew ?_ | refine Ext.drewN ?_ _ | refine Ext.setCell ?_ (by first | (simp; done) | (simp; omega) | omega) _ | refine Ext.trans ?_ (by assumption)))
end Go.Proofs.YtfmnkojjkjkdeaaGreatDoor
