/- Contracts: networks that the layer of blame draws out of a source. -/
import Derived.Test.YtfajmlkiidnhlaaQ3Dg
namespace Go.Proofs.Ytfajmlkiidnhlaa
set_option linter.unusedVariables false
set_option linter.unusedSimpArgs false
open Go.RowKit
attribute [local go_sem] cell_onto

theorem boxRow {w : World} {g sz n : Nat} {cs : List Value} {f : Nat → Value} (h : Boxed w g cs) (hn : n ≤ 4096) (hf : ∀ i, i < n * sz → cs[i]? = some (f i)) (lo : Nat) (hlo : lo ≤ g) : Row w lo w.heap.size sz (.slice (some ⟨g, 0, none⟩) n n) n f :=
  ⟨by unfold maxLen; omega, _, _, rfl, Nat.le_refl _, fun _ => ⟨g, 0, rfl, hlo, h.1, fun i hi => by rw [Nat.zero_add]; exact (h.2 i _ (hf i hi)).1⟩⟩
theorem linkCells_app (l m : List Lk) : cellsOf (l.length * 4) (linkCell l) ++ cellsOf (m.length * 4) (linkCell m) = cellsOf ((l ++ m).length * 4) (linkCell (l ++ m)) := by
  rw [cellsOf_append, List.length_append, Nat.add_mul]
  refine cellsOf_congr (fun i hi => ?_)
  have e : ∀ j, lkAt (l ++ m) j = if j < l.length then lkAt l j else lkAt m (j - l.length) := by
    intro j
    unfold lkAt
    rw [List.getD_eq_getElem?_getD, List.getD_eq_getElem?_getD, List.getD_eq_getElem?_getD]
    by_cases h : j < l.length
    · rw [if_pos h, List.getElem?_append_left h]
    · rw [if_neg h, List.getElem?_append_right (by omega)]
  by_cases h : i < l.length * 4
  · rw [if_pos h]
    unfold linkCell
    rw [e, if_pos (show i / 4 < l.length by omega)]
  · rw [if_neg h]
    unfold linkCell
    rw [e, if_neg (show ¬ i / 4 < l.length by omega), show (i - l.length * 4) % 4 = i % 4 by omega, show (i - l.length * 4) / 4 = i / 4 - l.length by omega]
theorem two_links (a b c d a' b' c' d' : Int) : ∀ i, i < 2 * 4 → [Value.int .i64 a, .int .i64 b, .int .i64 c, .int .i64 d, .int .i64 a', .int .i64 b', .int .i64 c', .int .i64 d'][i]? = some (linkCell [⟨a, b, c, d⟩, ⟨a', b', c', d'⟩] i) := fun i hi => by
  have hi' : i < 8 := hi
  match i, hi' with
  | 0, _ => rfl
  | 1, _ => rfl
  | 2, _ => rfl
  | 3, _ => rfl
  | 4, _ => rfl
  | 5, _ => rfl
  | 6, _ => rfl
  | 7, _ => rfl
theorem two_links_one (a b c d a' b' c' d' : Int) (i : Nat) : (linkCell [⟨a, b, c, d⟩, ⟨a', b', c', d'⟩] i).oneCell' = true := by
  unfold linkCell
  split
  · rfl
  · split
    · rfl
    · split <;> rfl
theorem DrNetQ.fin {b0 g q cn lo : Nat} {cv s k : Value} {n : Net} {w wz : World} (hd : Drw b0 g cv cn w wz) (hN : NetAt wz lo wz.heap.size s k n) (hq : q < lo) (hwq : w.heap.size ≤ q) (hg : g < w.heap.size) (hf : Few n) :
    DrNetQ b0 g cv cn w (.returned (.agg #[s, k])) ((wz.setCell ⟨q, 0, none⟩ s).setCell ⟨q, 1, none⟩ k) :=
  ⟨s, k, n, rfl, (hd.setCell (p := ⟨q, 0, none⟩) hwq (by show g < q; omega) _).setCell (p := ⟨q, 1, none⟩) hwq (by show g < q; omega) _, hf, (net_store hN hq).wide (by omega) (Nat.le_refl _)⟩
/-- two links more -/
theorem dst_blk {T hd b : Nat} {k v : Value} {n : Nat} {xs : List Value} {S : Nat → Prop} {w2 w7 w8 : World} (hk : DstP w2 hd T 4 k n xs S) (hS : ∀ k, S k → hd ≤ k ∧ k < w2.heap.size) (hp : Put hd w7 k w8 v) (hv : v.ownBlock = some b) : S b ∨ w7.heap.size ≤ b := by
  rcases hp.2 b hv with h | h
  · rcases hk with ⟨_, h2⟩ | ⟨_, _, _, h4⟩
    · exact .inl (h2 b h.2.2)
    · have := (h4 b h.2.2).1; have := h.1; omega
  · exact .inr h
theorem put_blk {T hd b : Nat} {k : Value} {n : Nat} {xs : List Value} {S : Nat → Prop} {w2 w7 : World} (hk : DstP w2 hd T 4 k n xs S) (h : hd ≤ b ∧ b < w7.heap.size ∧ k.ownBlock = some b) : S b := by
  rcases hk with ⟨_, h2⟩ | ⟨_, _, _, h4⟩
  · exact h2 b h.2.2
  · have := (h4 b h.2.2).1; have := h.1; omega
theorem net_two {b0 g cn T hd lo p : Nat} {cv s k v : Value} {n : Net} {S : Nat → Prop} {w2 w6 w7 w8 : World} {x y : Lk} (h6 : Drw b0 g cv cn w2 w6) (hlo : lo ≤ hd) (hk : DstP w2 hd T 4 k n.links.length (cellsOf (n.links.length * 4) (linkCell n.links)) S) (hS : ∀ k, S k → hd ≤ k ∧ k < w2.heap.size)
    (hs : ∀ w'', Off (fun x => x = g ∨ S x) w2 w'' → Sets w'' lo w''.heap.size s n.sets) (hx : Ext w6 w7) (hp : Put hd w7 k w8 v) (ho : w8.ownsRow hd T 4 v (n.links.length + 2) (cellsOf (n.links.length * 4) (linkCell n.links) ++ cellsOf (2 * 4) (linkCell [x, y]))) (hpb : w2.heap.size ≤ p) (hpz : p < w7.heap.size) (u : Value) :
    NetAt (w8.setCell ⟨p, 1, none⟩ u) lo (w8.setCell ⟨p, 1, none⟩ u).heap.size s v ⟨n.sets, n.links ++ [x, y]⟩ := by
  have hO : Off (fun x => x = g ∨ S x) w2 (w8.setCell ⟨p, 1, none⟩ u) := by
    refine Off.setCell (S := fun x => x = g ∨ S x) (p := ⟨p, 1, none⟩) ?_ (.inr hpb) u
    exact ((h6.off.mono (fun _ hk => .inl hk)).trans (Off.of_ext hx)).news hp.1 (fun b hb => .inl (.inr (put_blk hk hb)))
  refine ⟨hs _ hO, ?_⟩
  have e := linkCells_app n.links [x, y]
  rw [show [x, y].length = 2 from rfl] at e
  rw [e] at ho
  have ho' : w8.ownsRow hd T 4 v (n.links ++ [x, y]).length (cellsOf ((n.links ++ [x, y]).length * 4) (linkCell (n.links ++ [x, y]))) := by
    rw [List.length_append] at ho ⊢
    exact ho
  have ho2 := ownsRow_off ho' (S := One p) (Off.setCell (S := One p) (p := ⟨p, 1, none⟩) (u := u) (Off.refl _ _) (.inl rfl)) (fun b hb hh => by
    have e1 : b = p := hh
    rcases dst_blk hk hS hp hb with h | h
    · have := (hS b h).2; omega
    · omega)
  obtain ⟨gk, h1, h2⟩ := Own.of_owned ho2
  exact h2.row (fun h0 => ⟨by have := (h1 h0).2; omega, h2.lt h0⟩)
theorem box_put {T hd p : Nat} {k v : Value} {n : Nat} {xs : List Value} {S : Nat → Prop} {w2 w7 w8 : World} {cs : List Value} (hb : Boxed w7 p cs) (hk : DstP w2 hd T 4 k n xs S) (hS : ∀ k, S k → hd ≤ k ∧ k < w2.heap.size) (hp : Put hd w7 k w8 v) (hpo : p < hd ∨ w2.heap.size ≤ p) : Boxed w8 p cs :=
  hb.off hp.1 (fun hh => by have := hS p (put_blk hk hh); omega)
set_option maxRecDepth 100000 in
set_option maxHeartbeats 8000000 in
theorem spec_l21Draw (b0 g cn : Nat) (cv : Value) (w : World) (h : Src b0 g cv cn w) : Calls Try.prog 122 #[.pointer (some ⟨g, 0, none⟩)] w (DrNetQ b0 g cv cn w) := by
  have Hs := Lib.hid h
  have hg := h.lt
  have hlo := h.lo
  clear h
  obtain ⟨w1, hw1⟩ : ∃ w1 : World, w1 = w.alloc (.cells #[.slice none 0 0, .slice none 0 0] 27) := ⟨_, rfl⟩
  have hd1 : Drw b0 g cv cn w w1 := by rw [hw1]; exact (Drw.refl Hs.out).alloc _
  have hz1 : w1.heap.size = w.heap.size + 1 := by rw [hw1]; simp
  have HB1 := Lib.hid (show Boxed w1 w.heap.size [.slice none 0 0, .slice none 0 0] from by rw [hw1]; exact Boxed.new w [.slice none 0 0, .slice none 0 0] 27)
  have Hd1 := Lib.hid hd1
  clear hd1
  go_enter Try.func122, Try.ntmps122
  go_wp2_with fail
  rw [← hw1]
  clear hw1
  refine Calls.mono (spec_l18Draw _ _ cn _ w1 Hd1.out.src) ?_
  intro e w2 hD
  have HF := Lib.hid hD.fresh
  obtain ⟨s, k, n, rfl, hd2, ⟨f1, f2, f3⟩, S, hd, i1, i2, hk, hS, hsets⟩ := hD
  obtain ⟨As, cs, rfl, _⟩ := (hsets w2 (Off.refl _ _)).len
  obtain ⟨Ak, ck, rfl⟩ := hk.len
  have hN2 : NetAt w2 w1.heap.size w2.heap.size (.slice As n.sets.length cs) (.slice Ak n.links.length ck) n := ⟨hsets w2 (Off.refl _ _), (hk.row).mono i1 (Nat.le_refl _)⟩
  have Hf := Lib.hid (show Few n from ⟨by omega, by omega, f3⟩)
  have Hk := Lib.hid hk
  have HS := Lib.hid hsets
  have Hd2 := Lib.hid hd2
  have hz2 := hd2.size
  have HN2 := Lib.hid hN2
  have HB2 := Lib.hid (HB1.out.drw hd2 (by omega))
  have HSb := Lib.hid hS
  clear HF hd2 hk hsets hN2 f3 hS
  obtain ⟨w3, hw3⟩ : ∃ w3 : World, w3 = w2.alloc (.cells #[.slice As n.sets.length cs, .slice Ak n.links.length ck] 27) := ⟨_, rfl⟩
  have hx3 : Ext w2 w3 := by rw [hw3]; exact (by repeat (first | exact Ext.refl _ | assumption | refine Ext.alloc ?_ _ | refine Ext.drew ?_ | refine Ext.drewN ?_ _ | refine Ext.setCell ?_ (by first | (simp; done) | (simp; omega) | omega) _ | refine Ext.trans ?_ (by assumption)))
  have hz3 : w3.heap.size = w2.heap.size + 1 := by rw [hw3]; simp
  have Hm3 := Lib.hid (show Boxed w3 w2.heap.size [.slice As n.sets.length cs, .slice Ak n.links.length ck] from by rw [hw3]; exact Boxed.new w2 [.slice As n.sets.length cs, .slice Ak n.links.length ck] 27)
  have m0 := Hm3.out.at0
  have m1 := Hm3.out.at1
  have HB3 := Lib.hid (HB2.out.ext hx3)
  have HN3 := Lib.hid ((HN2.out.ext hx3 (Nat.le_refl _)).wide (Nat.le_refl _) hx3.size)
  have Hd3 := Lib.hid (Hd2.out.ext hx3)
  go_wp2_with fail
  rw [← hw3]
  clear hw3
  go_wp2_with fail
  refine Calls.mono (spec_IsNetwork _ _ n _ ⟨HN3.out.1.mono (Nat.zero_le _) (Nat.le_refl _), HN3.out.2.mono (Nat.zero_le _) (Nat.le_refl _)⟩) ?_
  rintro e w4 ⟨rfl, hx4⟩
  have hz4 := hx4.size
  have HN4 := Lib.hid ((HN3.out.ext hx4 (Nat.le_refl _)).wide (Nat.le_refl _) hx4.size)
  have HB4 := Lib.hid (HB3.out.ext hx4)
  have Hm4 := Lib.hid (Hm3.out.ext hx4)
  have Hd4 := Lib.hid (Hd3.out.ext hx4)
  have He4 := Lib.hid (show Drw b0 g cv cn w3 w4 from (Drw.refl Hd3.out.src).ext hx4)
  clear m0 m1 hx4
  have q0 := HB4.out.at0
  have q1 := HB4.out.at1
  have qf0 := HB4.out.fz 0 (by simp)
  have qf1 := HB4.out.fz 1 (by simp)
  have qg := HB4.out.1
  have m0 := Hm4.out.at0
  have m1 := Hm4.out.at1
  have mg := Hm4.out.1
  by_cases hok : NetOk n
  case neg =>
    rw [B_false hok]
    go_wp2_with fail
    refine bodyPost_ret (v := .agg #[.slice As n.sets.length cs, .slice Ak n.links.length ck]) (by simp [results, Try.results122, go_sem, *]) rfl ?_
    exact DrNetQ.fin (Hd1.out.trans Hd4.out) HN4.out (by omega) (Nat.le_refl _) hg Hf.out
  rw [B_true hok]
  clear hok
  by_cases hc1 : 1 < n.sets.length
  case neg =>
    have hci : ¬ (1 : Int) < (n.sets.length : Int) := by omega
    go_wp2_with fail
    refine bodyPost_ret (v := .agg #[.slice As n.sets.length cs, .slice Ak n.links.length ck]) (by simp [results, Try.results122, go_sem, *]) rfl ?_
    exact DrNetQ.fin (Hd1.out.trans Hd4.out) HN4.out (by omega) (Nat.le_refl _) hg Hf.out
  have hci : (1 : Int) < (n.sets.length : Int) := by omega
  go_wp2_with fail
  refine Calls.mono (spec_l01Next _ _ cn _ 2 _ Hd4.out.src) ?_
  rintro e w5 ⟨r, rfl, -, hd5⟩
  have hz5 := hd5.size
  have HN5 := Lib.hid ((HN4.out.drw hd5 (by omega) (Nat.le_refl _)).wide (Nat.le_refl _) hz5)
  have HB5 := Lib.hid (HB4.out.drw hd5 (by omega))
  have Hm5 := Lib.hid (Hm4.out.drw hd5 (by omega))
  have Hd5 := Lib.hid (Hd4.out.trans hd5)
  have He5 := Lib.hid (He4.out.trans hd5)
  clear hd5 q0 q1 qf0 qf1 qg m0 m1 mg
  have q0 := HB5.out.at0
  have q1 := HB5.out.at1
  have qf0 := HB5.out.fz 0 (by simp)
  have qf1 := HB5.out.fz 1 (by simp)
  have qg := HB5.out.1
  have m0 := Hm5.out.at0
  have m1 := Hm5.out.at1
  have mg := Hm5.out.1
  by_cases z0 : r = 0
  case neg =>
    have z0' : (r == 0) = false := by simpa using z0
    go_wp2_with fail
    refine bodyPost_ret (v := .agg #[.slice As n.sets.length cs, .slice Ak n.links.length ck]) (by simp [results, Try.results122, go_sem, *]) rfl ?_
    exact DrNetQ.fin (Hd1.out.trans Hd5.out) HN5.out (by omega) (Nat.le_refl _) hg Hf.out
  subst z0
  clear q0 q1 qf0 qf1 qg m0 m1 mg
  go_wp2_with fail
  refine Calls.mono (spec_l01Next _ _ cn _ n.sets.length _ Hd5.out.src) ?_
  rintro e w6 ⟨a, rfl, hba, hd6⟩
  have Hd6 := Lib.hid (Hd5.out.trans hd6)
  have He6 := Lib.hid (He5.out.trans hd6)
  have hz6 := hd6.size
  have ha0 : 0 ≤ a := hba.1
  have ha1 := hba.2.1 hci
  clear hd6 hba
  have Wa : IntKind.i64.wrap (a + 1) = a + 1 := IntWalk.i64_in _ (by omega)
  have Wc : IntKind.i64.wrap ((n.sets.length : Int) - 1) = (n.sets.length : Int) - 1 := IntWalk.i64_in _ (by omega)
  go_wp2_with fail
  refine Calls.mono (spec_l01Next _ _ cn _ _ _ Hd6.out.src) ?_
  rintro e w7 ⟨rb, rfl, hbb, hd7⟩
  have Hd7 := Lib.hid (Hd6.out.trans hd7)
  have He7 := Lib.hid (He6.out.trans hd7)
  have hz7 := hd7.size
  have hrb0 : 0 ≤ rb := hbb.1
  have hrb1 : rb ≤ 8 := by
    by_cases h1 : 1 < (n.sets.length : Int) - 1
    · have := hbb.2.1 h1; omega
    · have := hbb.2.2 (by omega); omega
  have HB7 := Lib.hid (HB3.out.drw He7.out (by omega))
  have Hm7 := Lib.hid (Hm3.out.drw He7.out (by omega))
  have W8 : IntKind.i64.wrap (a + 1 + rb) = a + 1 + rb := IntWalk.i64_in _ (by omega)
  clear hd7 hbb
  obtain ⟨b, hbe⟩ : ∃ b : Int, b = (a + 1 + rb) % (n.sets.length : Int) := ⟨_, rfl⟩
  have Hbe := Lib.hid hbe
  clear hbe
  have m0 := Hm7.out.at0
  have m1 := Hm7.out.at1
  have mg := Hm7.out.1
  have mf1 := Hm7.out.fz 1 (by simp)
  have hnl := Hf.out.2.1
  have h12 : 1 < [Value.slice As n.sets.length cs, Value.slice Ak n.links.length ck].length := by simp
  have hz7' : w2.heap.size < w7.heap.size := by omega
  have hgd : g < hd := by omega
  go_upto_region 6 with fail
  go_region_law (first
    | (refine step_append_row rfl (.tmp 36) (.tmp 46) 25 rfl hd 60 4 32 Try.underlying25 (by kernel_rfl) (by omega) _ n.links.length 2 _ rfl (((Hk.out.off (Drw.pre hx3 He8.out).off (fun k hk hh => by have e : k = g := hh; have := (HSb.out k hk).1; omega)).ext (show Ext w8 _ from (by repeat (first | exact Ext.refl _ | assumption | refine Ext.alloc ?_ _ | refine Ext.drew ?_ | refine Ext.drewN ?_ _ | refine Ext.setCell ?_ (by first | (simp; done) | (simp; omega) | omega) _ | refine Ext.trans ?_ (by assumption))))).dst) (.inr (by omega)) 0 _ _ (linkCell [⟨a, _, 5, 9⟩, ⟨_, a, r8 - 8, 4⟩]) rfl (boxRow (Boxed.new w8 [.int .i64 a, .int .i64 _, .int .i64 5, .int .i64 9, .int .i64 _, .int .i64 a, .int .i64 (r8 - 8), .int .i64 4] 60) (by omega) (two_links _ _ _ _ _ _ _ _) 0 (Nat.zero_le _)) (fun i _ => two_links_one _ _ _ _ _ _ _ _ i) (by unfold maxLen; omega) (by omega) (by simp; omega) ?_; intro v9 w9 hown9 hput9; obtain ⟨A9, c9, rfl⟩ := ownsRow_len hown9; have hm9 := (box_put (Hm8.out.ext (show Ext w8 _ from (by repeat (first | exact Ext.refl _ | assumption | refine Ext.alloc ?_ _ | refine Ext.drew ?_ | refine Ext.drewN ?_ _ | refine Ext.setCell ?_ (by first | (simp; done) | (simp; omega) | omega) _ | refine Ext.trans ?_ (by assumption))))) Hk.out HSb.out hput9 (.inr (Nat.le_refl _))); have hb9 := (box_put (HB8.out.ext (show Ext w8 _ from (by repeat (first | exact Ext.refl _ | assumption | refine Ext.alloc ?_ _ | refine Ext.drew ?_ | refine Ext.drewN ?_ _ | refine Ext.setCell ?_ (by first | (simp; done) | (simp; omega) | omega) _ | refine Ext.trans ?_ (by assumption))))) Hk.out HSb.out hput9 (.inl (by omega))); have m1 := hm9.at1; have mf1 := hm9.fz 1 h12; have HM9 := Lib.hid (net_two (p := w2.heap.size) (Drw.pre hx3 He8.out) i1 Hk.out HSb.out HS.out (show Ext w8 _ from (by repeat (first | exact Ext.refl _ | assumption | refine Ext.alloc ?_ _ | refine Ext.drew ?_ | refine Ext.drewN ?_ _ | refine Ext.setCell ?_ (by first | (simp; done) | (simp; omega) | omega) _ | refine Ext.trans ?_ (by assumption)))) hput9 hown9 (Nat.le_refl _) (by simp; omega) (.slice A9 (n.links.length + 2) c9)); have Hm9 := Lib.hid (hm9.set 1 (.slice A9 (n.links.length + 2) c9) h12); have HB9 := Lib.hid (hb9.setOther (p := ⟨w2.heap.size, 1, none⟩) (by show w.heap.size ≠ w2.heap.size; omega) (.slice A9 (n.links.length + 2) c9)); have Hd9 := Lib.hid (((Hd8.out.ext (show Ext w8 _ from (by repeat (first | exact Ext.refl _ | assumption | refine Ext.alloc ?_ _ | refine Ext.drew ?_ | refine Ext.drewN ?_ _ | refine Ext.setCell ?_ (by first | (simp; done) | (simp; omega) | omega) _ | refine Ext.trans ?_ (by assumption))))).put (by omega) hput9 (by omega)).setCell (p := ⟨w2.heap.size, 1, none⟩) (by show w1.heap.size ≤ w2.heap.size; omega) (by show g < w2.heap.size; omega) (.slice A9 (n.links.length + 2) c9)); clear hm9 hb9 hown9 hput9)
    | (go_simp; go_at_call 87; refine Calls.mono (spec_l01Next _ _ cn _ 12 _ (Hd7.out.src.ext (by repeat (first | exact Ext.refl _ | assumption | refine Ext.alloc ?_ _ | refine Ext.drew ?_ | refine Ext.drewN ?_ _ | refine Ext.setCell ?_ (by first | (simp; done) | (simp; omega) | omega) _ | refine Ext.trans ?_ (by assumption))))) ?_; rintro e w8 ⟨r8, rfl, ⟨t0, t1, _⟩, hd8⟩; have ht1 := t1 (by omega); have Hd8 := Lib.hid (Hd7.out.trans (Drw.pre (show Ext w7 _ from (by repeat (first | exact Ext.refl _ | assumption | refine Ext.alloc ?_ _ | refine Ext.drew ?_ | refine Ext.drewN ?_ _ | refine Ext.setCell ?_ (by first | (simp; done) | (simp; omega) | omega) _ | refine Ext.trans ?_ (by assumption)))) hd8)); have He8 := Lib.hid (He7.out.trans (Drw.pre (show Ext w7 _ from (by repeat (first | exact Ext.refl _ | assumption | refine Ext.alloc ?_ _ | refine Ext.drew ?_ | refine Ext.drewN ?_ _ | refine Ext.setCell ?_ (by first | (simp; done) | (simp; omega) | omega) _ | refine Ext.trans ?_ (by assumption)))) hd8)); have Hm8 := Lib.hid (Hm3.out.drw He8.out (by omega)); have HB8 := Lib.hid (HB3.out.drw He8.out (by omega)); have m0 := Hm8.out.at0; have m1 := Hm8.out.at1; have mf1 := Hm8.out.fz 1 h12; have mg := Hm8.out.1; have hz8 := hd8.size; have W9 : IntKind.i64.wrap (r8 - 8) = r8 - 8 := IntWalk.i64_in _ (by omega); clear hd8 t1))
  all_goals
    generalize w9.setCell ⟨w2.heap.size, 1, none⟩ (.slice A9 (n.links.length + 2) c9) = w10 at *
    have Hm10 := Lib.hid (show Boxed w10 w2.heap.size [.slice As n.sets.length cs, .slice A9 (n.links.length + 2) c9] from Hm9.out)
    have x0 := Hm10.out.at0
    have x1 := Hm10.out.at1
    have xg := Hm10.out.1
    have q0 := HB9.out.at0
    have q1 := HB9.out.at1
    have qf0 := HB9.out.fz 0 (by simp)
    have qf1 := HB9.out.fz 1 (by simp)
    have qg := HB9.out.1
    go_wp2_with fail
    refine bodyPost_ret (v := .agg #[.slice As n.sets.length cs, .slice A9 (n.links.length + 2) c9]) (by simp [results, Try.results122, go_sem, *]) rfl ?_
    exact DrNetQ.fin (Hd1.out.trans Hd9.out) HM9.out (by omega) (Nat.le_refl _) hg ⟨Hf.out.1, by show (n.links ++ [_, _]).length ≤ 8; simp; omega, Hf.out.2.2⟩
end Go.Proofs.Ytfajmlkiidnhlaa
