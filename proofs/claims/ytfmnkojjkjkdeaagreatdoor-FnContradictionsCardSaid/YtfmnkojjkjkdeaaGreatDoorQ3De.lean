/- Contracts: a list without one of its elements: slices.Delete, lessOne, l21Drop. -/
import Derived.Test.YtfmnkojjkjkdeaaGreatDoorQ3T
import Derived.Test.YtfmnkojjkjkdeaaGreatDoorQ3Bd
import Derived.Deep.RegionHeld3
import Derived.Laws.IdiomCopy
import Derived.Lib.SliceRun
namespace Go.Proofs.YtfmnkojjkjkdeaaGreatDoor
set_option linter.unusedVariables false
set_option linter.unusedSimpArgs false
open Go.RowKit
attribute [local go_sem] cell_onto

theorem Off.setCells {S : Nat → Prop} {a : World} {g : Nat} (hg : S g) : ∀ (vs : List Value) (o : Nat) (w : World), Off S a w → Off S a (w.setCells g o vs)
  | [], _, _, h => h
  | v :: r, o, w, h => Off.setCells hg r (o + 1) _ (h.setCell (p := ⟨g, o, none⟩) (.inl hg) v)
theorem inAt_erase (l : List Int) (i k : Nat) : inAt (l.eraseIdx i) k = if k < i then inAt l k else inAt l (k + 1) := by
  unfold inAt
  rw [List.getD_eq_getElem?_getD, List.getElem?_eraseIdx]
  split <;> rw [List.getD_eq_getElem?_getD]
theorem erase_len {l : List Int} {i : Nat} (hi : i < l.length) : (l.eraseIdx i).length = l.length - 1 := by rw [List.length_eraseIdx]; simp [hi]
theorem getElem_map_drop {l : List Int} {i t : Nat} (h : i + 1 + t < l.length) : ((l.drop (i + 1)).map (Value.int .i64))[t]? = some (intCell l (i + 1 + t)) := by
  rw [List.getElem?_map, List.getElem?_drop]
  unfold intCell inAt
  rw [List.getD_eq_getElem?_getD, List.getElem?_eq_getElem h]
  rfl
/-- what lies in the block behind the move and the clearing -/
theorem del_own {w : World} {g off c i : Nat} {l : List Int} {news : List Value} {z : Value} (h : Own w g 1 (.slice (some ⟨g, off, none⟩) l.length c) l.length (intCell l)) (hi : i < l.length) (hn : news = (l.drop (i + 1)).map (Value.int .i64)) :
    Own ((w.setCells g (off + i) news).setCells g (off + (l.length - 1)) (List.replicate 1 z)) g 1 (.slice (some ⟨g, off, none⟩) (l.length - 1) c) (l.length - 1) (intCell (l.eraseIdx i)) := by
  obtain ⟨hgw, hcells⟩ := h.cells (by omega)
  have hlen : news.length = l.length - (i + 1) := by rw [hn]; simp
  have hsz := (Off.setCells (S := fun k => k = g) (a := w) (g := g) rfl (List.replicate 1 z) (off + (l.length - 1)) _ (Off.setCells (S := fun k => k = g) (a := w) (g := g) rfl news (off + i) w (Off.refl _ _))).size
  obtain ⟨hm, A, c', hv, hc', _⟩ := h
  injection hv with e1 e2 e3
  subst e3
  refine ⟨by omega, _, _, rfl, by omega, fun h0 => ⟨by omega, off, rfl, fun j hj => ⟨?_, ?_⟩⟩⟩
  · rw [World.cell?_setCells_out g _ _ _ _ (fun _ _ => .inl (by show off + j < off + (l.length - 1); omega))]
    show _ = some (Value.int .i64 (inAt (l.eraseIdx i) j))
    rw [inAt_erase]
    by_cases e : j < i
    · rw [if_pos e, World.cell?_setCells_out g _ _ _ _ (fun _ _ => .inl (by show off + j < off + i; omega))]
      exact (hcells j (by omega)).1
    · rw [if_neg e]
      obtain ⟨t, rfl⟩ : ∃ t, j = i + t := ⟨j - i, by omega⟩
      have ht : t < news.length := by omega
      have := World.cell?_setCells_in g news (off + i) w (fun q hq => by
        rw [Nat.add_assoc, (hcells (i + q) (by omega)).1]; rfl) t ht
      rw [← Nat.add_assoc, this]
      have h2 := getElem_map_drop (l := l) (i := i) (t := t) (by omega)
      rw [← hn, List.getElem?_eq_getElem ht] at h2
      injection h2 with h2
      rw [h2]
      unfold intCell
      rw [show i + 1 + t = i + t + 1 by omega]
  · rw [World.frozen?_setCells, World.frozen?_setCells]
    exact (hcells j (by omega)).2

theorem zero_int64 (w : World) : (zeroValue 2).run Tryz.prog w = .ok (.int .i64 0) w := by kernel_rfl
def DelPost (g off c : Nat) (l : List Int) (i : Nat) (w : World) (e : Ending) (w' : World) : Prop :=
  e = .returned (.slice (some ⟨g, off, none⟩) (l.length - 1) c) ∧ Off (fun k => k = g) w w' ∧ Own w' g 1 (.slice (some ⟨g, off, none⟩) (l.length - 1) c) (l.length - 1) (intCell (l.eraseIdx i))
set_option maxRecDepth 100000 in
set_option maxHeartbeats 4000000 in
theorem slices_Delete_one (g off c i : Nat) (l : List Int) (w : World) (hi : i < l.length) (hl : l.length ≤ 1048576) (hc : l.length ≤ c) (hcm : c ≤ 9223372036854775807) (h : Own w g 1 (.slice (some ⟨g, off, none⟩) l.length c) l.length (intCell l)) :
    Calls Tryz.prog 130 #[.slice (some ⟨g, off, none⟩) l.length c, .int .i64 i, .int .i64 ((i : Int) + 1)] w (DelPost g off c l i w) := by
  obtain ⟨news, hnews⟩ : ∃ news, news = (l.drop (i + 1)).map (Value.int .i64) := ⟨_, rfl⟩
  obtain ⟨n, hn⟩ : ∃ n, l.length = n := ⟨_, rfl⟩
  obtain ⟨hgw, hcells⟩ := h.cells (by omega)
  have H := Lib.hid h
  have Hnews := Lib.hid hnews
  have Hn := Lib.hid hn
  rw [hn] at hi hl hc hcells ⊢
  have hlen : news.length = n - (i + 1) := by rw [hnews]; simp [hn]
  obtain ⟨A, hA, hsrc⟩ : ∃ A : Addr, (if c = i + 1 then some (⟨g, off, none⟩ : Addr) else some ⟨g, off + (i + 1), none⟩) = some A ∧ Hid (∀ t u, news[t]? = some u → w.drew.cell? (A.add t) = some u) := by
    by_cases e : c = i + 1
    · refine ⟨⟨g, off, none⟩, by simp [e], fun t u hu => ?_⟩
      have h0 : news = [] := List.eq_nil_of_length_eq_zero (by omega)
      rw [h0] at hu
      simp at hu
    · refine ⟨⟨g, off + (i + 1), none⟩, by simp [e], fun t u hu => ?_⟩
      have ht : t < news.length := (List.getElem?_eq_some_iff.1 hu).1
      rw [hnews, getElem_map_drop (by omega)] at hu
      injection hu with hu
      rw [Addr.add_lit, show off + (i + 1) + t = off + (i + 1 + t) by omega, ← hu]
      exact (hcells _ (by omega)).1
  have s1 : Hid (news.length = (n - (i + 1)) * 1) := Lib.hid (by omega)
  have s2 : Hid (∀ u ∈ news, u.oneCell' = true) := Lib.hid (fun u hu => by
    rw [hnews] at hu
    obtain ⟨x, _, rfl⟩ := List.mem_map.1 hu
    rfl)
  have s3 : Hid (∀ t, t < news.length → (w.drew.cell? ⟨g, off + i * 1 + t, none⟩).isSome = true ∧ w.drew.frozen? ⟨g, off + i * 1 + t, none⟩ = false) := Lib.hid (fun t ht => by
    rw [Nat.mul_one, Nat.add_assoc]
    exact ⟨by show (w.cell? _).isSome = true; rw [(hcells (i + t) (by omega)).1]; rfl, (hcells (i + t) (by omega)).2⟩)
  obtain ⟨W1, hW1⟩ : ∃ W1, W1 = w.drew.setCells g (off + i * 1) news := ⟨_, rfl⟩
  have Hown : Hid (Own (W1.setCells g (off + (n - 1)) (List.replicate 1 (.int .i64 0))) g 1 (.slice (some ⟨g, off, none⟩) (n - 1) c) (n - 1) (intCell (l.eraseIdx i))) := Lib.hid (by
    have := del_own (z := .int .i64 0) (H.out.ext (show Ext w w.drew from (by repeat (first | exact Ext.refl _ | assumption | refine Ext.alloc ?_ _ | refine Ext.drew ?_ | refine Ext.drewN ?_ _ | refine Ext.setCell ?_ (by first | (simp; done) | (simp; omega) | omega) _ | refine Ext.trans ?_ (by assumption))))) (by omega) Hnews.out
    rw [hW1, Nat.mul_one]
    rw [hn] at this
    exact this)
  have Hoff : Hid (Off (fun k => k = g) w (W1.setCells g (off + (n - 1)) (List.replicate 1 (.int .i64 0)))) := Lib.hid (by
    rw [hW1]
    exact Off.setCells (S := fun k => k = g) (g := g) rfl _ _ _ (Off.setCells (S := fun k => k = g) (g := g) rfl _ _ _ (Off.of_ext ((Ext.refl w).drew))))
  have hcell1 : ∀ j, j < n → (W1.cell? ⟨g, off + j, none⟩).isSome = true ∧ W1.frozen? ⟨g, off + j, none⟩ = false := by
    intro j hj
    rw [hW1]
    refine ⟨?_, by rw [World.frozen?_setCells]; exact (hcells j hj).2⟩
    by_cases e : off + i * 1 ≤ off + j ∧ off + j < off + i * 1 + news.length
    · obtain ⟨t, rfl⟩ : ∃ t, j = i + t := ⟨j - i, by omega⟩
      have := World.cell?_setCells_in g news (off + i * 1) w.drew (fun q hq => (s3.out q hq).1) t (by omega)
      rw [show off + (i + t) = off + i * 1 + t by omega, this]
      rfl
    · rw [World.cell?_setCells_out g _ _ _ _ (fun _ _ => by show off + j < off + i * 1 ∨ _ ≤ off + j; omega)]
      show (w.cell? _).isSome = true
      rw [(hcells j hj).1]; rfl
  have hcl : ∀ ty, (Builtin.clear_ #[28] ty #[.slice (some ⟨g, off + (i + (n - (i + 1))), none⟩) (n - (i + (n - (i + 1)))) (c - (i + (n - (i + 1))))]).run Tryz.prog W1 = .ok (.tuple #[]) (W1.setCells g (off + (n - 1)) (List.replicate 1 (.int .i64 0))) := fun ty => by
    have := Lib.run_clear_slice (P := Tryz.prog) W1 28 2 ty (.int .i64 0) Tryz.underlying28 zero_int64 rfl rfl g (off + (i + (n - (i + 1)))) (n - (i + (n - (i + 1)))) (c - (i + (n - (i + 1)))) (by omega)
      (fun j hj => by rw [Nat.add_assoc]; exact (hcell1 _ (by omega)).1) (fun j hj => by rw [Nat.add_assoc]; exact (hcell1 _ (by omega)).2)
    rw [this, show i + (n - (i + 1)) = n - 1 by omega, show n - (n - 1) = 1 by omega]
  have hW : Hid (W1 = w.drew.setCells g (off + i * 1) news) := Lib.hid hW1
  obtain ⟨ti, hti, hz0⟩ := Option.map_eq_some_iff.1 (show (Tryz.prog.info? 2).map (fun q => q.size) = some 1 from by kernel_rfl)
  have hic : i ≤ c := by omega
  have hjc : i + 1 ≤ c := by omega
  have hij : ((i : Int) == (i : Int) + 1) = false := by simp; omega
  have hne0 : ¬ (i : Int) = (i : Int) + 1 := by omega
  clear hW1 hcells hcell1 hlen hnews
  have q1 : (0 : Int) ≤ (i : Int) + 1 := by omega
  have q2 : (i : Int) + 1 ≤ (n : Int) := by omega
  have q3 : ((i : Int) + 1).toNat = i + 1 := by omega
  have q4 : (i : Int) + 1 ≤ (c : Int) := by omega
  go_enter Tryz.func130, Tryz.ntmps130
  go_wp2_with fail
  go_region_held3 (fun w' => True) (trivial) ((refine step_append_room rfl (.tmp 22) (.tmp 25) 28 rfl 2 ti 1 Tryz.underlying28 hti hz0 g off i c (by simp [Act.eval, Act.put]) A (n - (i + 1)) (c - (i + 1)) news (by simp [Act.eval, Act.put, hA]) s1.out hsrc.out s2.out (by omega) s3.out ?_; rw [← hW.out]))
  go_wp2_with fail
  go_ret
  have hnn : i + (n - (i + 1)) = n - 1 := by omega
  unfold DelPost
  rw [hn]
  exact ⟨by simp [Act.put, *], Hoff.out, Hown.out⟩
set_option maxHeartbeats 1000000 in
theorem impl_lessOne (v : Value) (l : List Int) (i : Nat) (w : World) (h : Ints w 0 w.heap.size v l) (hi : i < l.length) (hl : l.length ≤ 1048576) :
    Calls Tryz.prog 58 #[v, .int .i64 i] w (NewRow 1 (l.eraseIdx i).length (intCell (l.eraseIdx i)) w) := by
  obtain ⟨A, c, rfl, _, _⟩ := h.len
  have H := Lib.hid h
  clear h
  go_enter Tryz.func58, Tryz.ntmps58
  go_wp2_with fail
  refine Calls.mono (slices_Clone_ints _ l _ H.out hl) ?_
  rintro e w1 ⟨u, rfl, hx1, hu⟩
  rcases hu.2 with ⟨_, h0⟩ | ⟨g, cap, cur, rfl, hg, hgc, hcap, hmx, _, _⟩
  · omega
  obtain ⟨g', hg', ho⟩ := Own.of_owned hu
  obtain rfl : g = g' := by
    have := (hg' (by omega)).1
    simpa [Value.ownBlock] using this
  have Ho := Lib.hid ho
  have Hx1 := Lib.hid hx1
  have hmx' : cap ≤ 9223372036854775807 := by unfold maxLen at hmx; omega
  clear hu ho hgc hg' hx1
  go_wp2_with fail
  refine Calls.mono (slices_Delete_one g 0 cap i l _ hi hl hcap hmx' Ho.out) ?_
  rintro e w2 ⟨rfl, hoff, hown⟩
  have Hoff := Lib.hid hoff
  have Hown := Lib.hid hown
  clear hoff hown
  go_wp2_with fail
  go_ret
  exact ⟨_, g, rfl, Hx1.out.off Hoff.out (fun k hk e => by omega), fun _ => hg, by rw [erase_len hi]; exact Hown.out⟩
set_option maxHeartbeats 1000000 in
theorem spec_l01Own (v : Value) (l : List Int) (w : World) (h : Ints w 0 w.heap.size v l) (hsm : l.length ≤ 1048576) :
    Calls Tryz.prog 136 #[v] w (NewOwn 2 1 l.length (intCell l) w) := by
  obtain ⟨A, c, rfl, hn, hc⟩ := h.len
  have H := Lib.hid h
  clear h
  go_enter Tryz.func136, Tryz.ntmps136
  go_wp2_with (at_builtin; refine wpList_append_row _ rfl _ _ 28 rfl w.heap.size 2 1 8 Tryz.underlying28 (by kernel_rfl) (by omega) _ 0 l.length [] rfl (.inl (World.ownsRow_made w #[] 0 (Nat.le_refl _) (Nat.zero_le _) rfl)) (.inl (World.ownsRow_made w #[] 0 (Nat.le_refl _) (Nat.zero_le _) rfl)) 0 w.heap.size _ (intCell l) rfl (H.out.ext ((Ext.refl w).alloc _) (Nat.le_refl _)) (fun i _ => intCell_one l i) (by unfold maxLen; omega) (by omega) (by simp) ?_; intro v' w1 hown hput)
  have Hown := Lib.hid hown
  have Hx := Lib.hid (hput.ext ((Ext.refl w).alloc (.cells #[] 2)) (Nat.le_refl _))
  clear hown hput
  go_wp2_with fail
  go_ret
  refine ⟨_, rfl, Hx.out, ?_⟩
  have h2 := Hown.out
  simp only [Nat.zero_add, List.nil_append] at h2
  exact h2
theorem cells_drop {l : List Int} {i n : Nat} (hn : l.length = n) (hi : i < n) : cellsOf ((l.take i).length * 1) (intCell (l.take i)) ++ cellsOf ((n - (i + 1)) * 1) (fun k => intCell l (i + 1 + k)) = cellsOf ((l.eraseIdx i).length * 1) (intCell (l.eraseIdx i)) := by
  have ht : (l.take i).length = i := by rw [List.length_take]; omega
  have he : (l.eraseIdx i).length = n - 1 := by rw [erase_len (by omega), hn]
  rw [cellsOf_append, ht, he, show i * 1 + (n - (i + 1)) * 1 = (n - 1) * 1 by omega]
  refine cellsOf_congr (fun k hk => ?_)
  show (if k < i * 1 then intCell (l.take i) k else intCell l (i + 1 + (k - i * 1))) = Value.int .i64 (inAt (l.eraseIdx i) k)
  rw [inAt_erase]
  by_cases e : k < i
  · rw [if_pos (by omega), if_pos e]
    unfold intCell inAt
    rw [List.getD_eq_getElem?_getD, List.getD_eq_getElem?_getD, List.getElem?_take, if_pos e]
  · rw [if_neg (by omega), if_neg e]
    unfold intCell
    rw [show i + 1 + (k - i * 1) = k + 1 by omega]
set_option maxRecDepth 100000 in
set_option maxHeartbeats 2000000 in
theorem spec_l21Drop (v : Value) (l : List Int) (i : Nat) (w : World) (h : Ints w 0 w.heap.size v l) (hi : i < l.length) (hl : l.length ≤ 1048576) :
    Calls Tryz.prog 61 #[v, .int .i64 i] w (NewRow 1 (l.eraseIdx i).length (intCell (l.eraseIdx i)) w) := by
  obtain ⟨A, c, rfl, _, hc⟩ := h.len
  obtain ⟨b, off, rfl, _, hb, h1⟩ := h.at_ (i := 0) (by omega)
  obtain ⟨_, A', c', hv, _, hr⟩ := h
  obtain ⟨b2, off2, hA', _, _, hcell⟩ := hr (by omega)
  injection hv with e1 e2 e3
  subst hA'
  injection e1 with e1
  injection e1 with e1 e4
  subst e1 e4 e3
  obtain ⟨n, hn⟩ : ∃ n, l.length = n := ⟨_, rfl⟩
  have Hn := Lib.hid hn
  have ht : (l.take i).length = i := by rw [List.length_take]; omega
  have Ht := Lib.hid ht
  have hic : i ≤ c := by omega
  have hjc : i + 1 ≤ c := by omega
  have hi1 : i ≤ i + 1 := by omega
  have Hpre : Hid (∀ w', Ext w w' → Ints w' 0 w'.heap.size (.slice (some ⟨b, off, none⟩) i c) (l.take i)) := Lib.hid (fun w' hx => by
    unfold Ints
    rw [ht]
    refine ⟨by unfold maxLen; omega, _, _, rfl, by omega, fun h0 => ⟨b, off, rfl, Nat.zero_le _, by have := hx.size; omega, fun k hk => ?_⟩⟩
    rw [hx.cell (p := ⟨b, off + k, none⟩) hb, hcell k (by omega)]
    unfold intCell inAt
    rw [List.getD_eq_getElem?_getD, List.getD_eq_getElem?_getD, List.getElem?_take, if_pos (by omega)])
  have Hsrc : Hid (∀ w', Ext w w' → ∀ A, (c = i + 1 ∨ A = some ⟨b, off + (i + 1), none⟩) → Row w' 0 w.heap.size 1 (.slice A (n - (i + 1)) (c - (i + 1))) (n - (i + 1)) (fun k => intCell l (i + 1 + k))) := Lib.hid (fun w' hx A hA => by
    refine ⟨by unfold maxLen; omega, _, _, rfl, by omega, fun h0 => ?_⟩
    rcases hA with hA | hA
    · omega
    · refine ⟨b, off + (i + 1), hA, Nat.zero_le _, hb, fun k hk => ?_⟩
      rw [Nat.add_assoc, hx.cell (p := ⟨b, off + (i + 1 + k), none⟩) hb]
      exact hcell _ (by omega))
  rw [hn] at hi hl hc ⊢
  clear h1 hr hcell
  have W1 : IntKind.i64.wrap ((i : Int) + 1) = (i : Int) + 1 := IntWalk.i64_in _ (by omega)
  have q1 : (0 : Int) ≤ (i : Int) + 1 := by omega
  have q2 : (i : Int) + 1 ≤ (n : Int) := by omega
  have q3 : ((i : Int) + 1).toNat = i + 1 := by omega
  have q4 : (i : Int) + 1 ≤ (c : Int) := by omega
  go_enter Tryz.func61, Tryz.ntmps61
  go_wp2_with fail
  go_region_law (first
    | (refine step_append_row rfl (.tmp 8) (.tmp 12) 28 rfl w.heap.size 2 1 8 Tryz.underlying28 (by kernel_rfl) (by omega) _ (l.take i).length (n - (i + 1)) _ rfl (.inl hu.out) (.inl hu.out) 0 w.heap.size _ (fun k => intCell l (i + 1 + k)) rfl (Hsrc.out _ (by assumption) _ (by by_cases e : c = i + 1 <;> simp [e])) (fun _ _ => rfl) (by rw [Ht.out]; unfold maxLen; omega) (by rw [Ht.out]; omega) (by have := hxc.size; simp at this ⊢; omega) ?_; intro v3 w3 hown3 hput3)
    | (go_simp; go_at_call 136; refine Calls.mono (spec_l01Own _ (l.take i) _ (Hpre.out _ (by repeat (first | exact Ext.refl _ | assumption | refine Ext.alloc ?_ _ | refine Ext.drew ?_ | refine Ext.drewN ?_ _ | refine Ext.setCell ?_ (by first | (simp; done) | (simp; omega) | omega) _ | refine Ext.trans ?_ (by assumption)))) (by rw [Ht.out]; omega)) ?_; rintro e' wc ⟨uv, rfl, hxc0, huc⟩; have hxc : Ext w wc := (by repeat (first | exact Ext.refl _ | assumption | refine Ext.alloc ?_ _ | refine Ext.drew ?_ | refine Ext.drewN ?_ _ | refine Ext.setCell ?_ (by first | (simp; done) | (simp; omega) | omega) _ | refine Ext.trans ?_ (by assumption))); have hu : Hid (wc.ownsRow w.heap.size 2 1 uv (l.take i).length (cellsOf ((l.take i).length * 1) (intCell (l.take i)))) := Lib.hid huc; clear huc hxc0))
  all_goals go_wp2_with fail
  all_goals
    go_ret
    have h3 := hown3
    rw [cells_drop Hn.out hi] at h3
    rw [show (l.take i).length + (n - (i + 1)) = (l.eraseIdx i).length by rw [Ht.out, erase_len (by rw [Hn.out]; exact hi), Hn.out]; omega] at h3
    obtain ⟨g, hg, ho⟩ := Own.of_owned h3
    exact ⟨_, g, rfl, hput3.ext hxc (Nat.le_refl _), fun h0 => (hg h0).2, ho⟩
end Go.Proofs.YtfmnkojjkjkdeaaGreatDoor
