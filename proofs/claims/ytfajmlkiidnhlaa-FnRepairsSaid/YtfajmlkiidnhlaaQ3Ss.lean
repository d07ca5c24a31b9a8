/- Texts merged (a claim holds at most sixty files): Ss, St. -/
import Derived.Test.YtfajmlkiidnhlaaQ3Ic
import Derived.Deep.RegionLaw
/- Contracts: the reference's search for the smallest repair. -/
namespace Go.Proofs.Ytfajmlkiidnhlaa
set_option linter.unusedVariables false
set_option linter.unusedSimpArgs false
open Go.RowKit
attribute [local go_sem] cell_onto

/-- what a search gives: whether p, and where p the list r, in memory from lo on -/
def SePost (p : Prop) (r : List Int) (lo : Nat) (w : World) (e : Ending) (w' : World) : Prop :=
  ∃ v, e = .returned (.tuple #[v, .bool (B p)]) ∧ Ext w w' ∧ (p → ∃ g, Own w' g 1 v r.length (intCell r) ∧ (0 < r.length → lo ≤ g))
def SeOk (s k : Value) (n : Net) (m : Nat) (l : List Int) (p : Prop) (r : List Int) : Prop :=
  ∀ (v : Value) (g lo : Nat) (w : World), NetIn w s k n → Own w g 1 v l.length (intCell l) → (0 < l.length → lo ≤ g) → lo ≤ w.heap.size → Calls Try.prog 127 #[.agg #[s, k], v, .int .i64 m] w (SePost p r lo w)
set_option maxHeartbeats 1000000 in
theorem search_0 (s k : Value) (n : Net) (l : List Int) (hok : NetOk n) (hbl : blN n ≤ 256) : SeOk s k n 0 l (repB n l = true) l := by
  intro v g lo w h ho hg hlo
  obtain ⟨A, c, rfl⟩ := ho.len
  have H := Lib.hid h
  have Ho := Lib.hid ho
  have Hg := Lib.hid hg
  have Hl := Lib.hid (Ints.of_own ho)
  have Hok := Lib.hid hok
  clear h ho hg hok
  go_enter Try.func127, Try.ntmps127
  go_wp2_with fail
  refine Calls.mono (spec_l21Repairs s k _ n l _ (H.out.up (by repeat (first | exact Ext.refl _ | assumption | refine Ext.alloc ?_ _ | refine Ext.drew ?_ | refine Ext.drewN ?_ _ | refine Ext.setCell ?_ (by first | (simp; done) | (simp; omega) | omega) _ | refine Ext.trans ?_ (by assumption)))) (Hl.out.up (by repeat (first | exact Ext.refl _ | assumption | refine Ext.alloc ?_ _ | refine Ext.drew ?_ | refine Ext.drewN ?_ _ | refine Ext.setCell ?_ (by first | (simp; done) | (simp; omega) | omega) _ | refine Ext.trans ?_ (by assumption)))) Hok.out hbl) ?_
  rintro e w1 ⟨rfl, hx1⟩
  have hx : Ext w w1 := (by repeat (first | exact Ext.refl _ | assumption | refine Ext.alloc ?_ _ | refine Ext.drew ?_ | refine Ext.drewN ?_ _ | refine Ext.setCell ?_ (by first | (simp; done) | (simp; omega) | omega) _ | refine Ext.trans ?_ (by assumption)))
  have Hre : Hid (repB n l = B (repB n l = true)) := Lib.hid (B_eq Iff.rfl)
  rw [Hre.out]
  go_wp2_with fail
  go_ret2
  exact ⟨_, rfl, (by repeat (first | exact Ext.refl _ | assumption | refine Ext.alloc ?_ _ | refine Ext.drew ?_ | refine Ext.drewN ?_ _ | refine Ext.setCell ?_ (by first | (simp; done) | (simp; omega) | omega) _ | refine Ext.trans ?_ (by assumption))), fun _ => ⟨g, Ho.out.ext hx, Hg.out⟩⟩
theorem firstP_from {p : Nat → Prop} {N f x : Nat} (h1 : f ≤ x) (h2 : x < N) (h3 : ∀ k, f ≤ k → k < x → ¬ p k) (h4 : p x) : firstP p N f = x := firstP_eq N f x h1 (by omega) h3 h4
set_option maxRecDepth 100000 in
set_option maxHeartbeats 8000000 in
theorem search_more (s k : Value) (n : Net) (m : Nat) (l : List Int) (f : Nat) (P : Nat → Prop) (R : Nat → List Int) (hok : NetOk n) (hm : m ≤ 2) (hf : (l = [] ∧ f = 0) ∨ ∃ t : Nat, l = [(t : Int)] ∧ f = t + 1) (hfN : f ≤ allS n)
    (ih : ∀ x, f ≤ x → x < allS n → SeOk s k n m (l ++ [(x : Int)]) (P x) (R x)) : SeOk s k n (m + 1) l (∃ x, f ≤ x ∧ x < allS n ∧ P x) (R (firstP P (allS n) f)) := by
  intro v g lo w h ho hg hlo
  have hll : l.length ≤ 1 := by
    rcases hf with ⟨rfl, _⟩ | ⟨t, rfl, _⟩ <;> simp
  have h8 := hok.1
  have h20 := hok.2.1
  obtain ⟨N, hN⟩ : ∃ N, N = allS n := ⟨_, rfl⟩
  have HN := Lib.hid hN
  have hN28 : N ≤ 28 := by rw [hN]; unfold allS; omega
  rw [← hN] at ih hfN
  have hno : ((m : Int) + 1 == 0) = false := by simp; omega
  have hm1 : IntKind.i64.wrap ((m : Int) + 1 - 1) = (m : Int) := by rw [show (m : Int) + 1 - 1 = m by omega]; exact IntWalk.i64_in _ (by omega)
  have hm2 : IntKind.i64.wrap (m : Int) = (m : Int) := IntWalk.i64_in _ (by omega)
  have Hih := Lib.hid ih
  have H := Lib.hid h
  have Hlo : Hid (lo ≤ w.heap.size) := Lib.hid hlo
  have Hl := Lib.hid (Ints.of_own ho)
  obtain ⟨A, c, rfl⟩ := ho.len
  have hcell : ∀ t : Nat, l = [(t : Int)] → ∃ b off, A = some ⟨b, off, none⟩ ∧ b < w.heap.size ∧ w.cell? ⟨b, off, none⟩ = some (.int .i64 t) := fun t e => by
    obtain ⟨b, off, e1, _, hb, h1⟩ := (Hl.out).at_ (i := 0) (by rw [e]; simp)
    rw [e] at h1
    exact ⟨b, off, e1, hb, by simpa [inAt] using h1⟩
  clear h ho hg hok hlo ih hN
  have hgo : ∀ (a1 : Act) (u9 : Value), True := fun _ _ => trivial
  rcases hf with ⟨rfl, rfl⟩ | ⟨t, rfl, rfl⟩
  · have Hl : Hid (Ints w 0 w.heap.size (.slice A 0 c) []) := Lib.hid Hl.out
    clear hcell hgo
    go_enter Try.func127, Try.ntmps127
    have bb := Boxed.new w [s, k] 27; have bb0 := bb.at0; have bb1 := bb.at1; have bbg := bb.1; have Hbb := Lib.hid bb; clear bb
    go_wp2_with fail
    go_loopg [9] (N - 0) (fun q i wr => ∃ x : Nat, x + q = N ∧ 0 ≤ x ∧ i = .int .i64 x ∧ Ext w wr ∧ Boxed wr w.heap.size [s, k] ∧ Hid (∀ y, 0 ≤ y → y < x → ¬ P y))
    case atStart => exact ⟨0, by omega, by omega, by go_num, (by repeat (first | exact Ext.refl _ | assumption | refine Ext.alloc ?_ _ | refine Ext.drew ?_ | refine Ext.drewN ?_ _ | refine Ext.setCell ?_ (by first | (simp; done) | (simp; omega) | omega) _ | refine Ext.trans ?_ (by assumption))), Hbb.out.ext (by repeat (first | exact Ext.refl _ | assumption | refine Ext.alloc ?_ _ | refine Ext.drew ?_ | refine Ext.drewN ?_ _ | refine Ext.setCell ?_ (by first | (simp; done) | (simp; omega) | omega) _ | refine Ext.trans ?_ (by assumption))), Lib.hid (fun y h1 h2 => absurd h1 (by omega))⟩
    clear bb0 bb1 bbg Hbb
    case round =>
      obtain ⟨x, hxq, hfx, rfl, hxr, hnb, Hno⟩ := hrel
      have nb := hnb; have nb0 := nb.at0; have nb1 := nb.at1; have nbg := nb.1; have Hnb := Lib.hid nb; clear nb
      clear hnb
      go_wp2_with fail
      refine Calls.mono (spec_l21Count s k n wr (H.out.up hxr) ⟨by omega, by omega⟩) ?_
      rintro e w2 ⟨rfl, hx2⟩
      have e1 : (n.sets.length : Int) + n.links.length = (N : Int) := by rw [HN.out]; unfold allS; omega
      rw [e1]
      have hxw2 : Ext w w2 := hxr.trans hx2
      have Hn2 := Lib.hid (Hnb.out.ext hx2)
      have hz2 := hxw2.size
      clear nb0 nb1 nbg Hnb hx2 hxr
      have nb := Hn2.out; have nb0 := nb.at0; have nb1 := nb.at1; have nbg := nb.1; have Hnb := Lib.hid nb; clear nb
      by_cases hlt : x < N
      · have T1 : decide ((x : Int) < (N : Int)) = true := decide_eq_true (by omega)
        have T2 : decide (x < N) = true := decide_eq_true hlt
        go_wp2_with fail
        go_region_law (first
          | (refine step_append_row rfl (.tmp 38) (.tmp 40) 28 rfl w2.heap.size 2 1 8 Try.underlying28 (by kernel_rfl) (by omega) _ ([] : List Int).length 1 _ rfl (.inl (ownsRow_mono (row_ext hu (by repeat (first | exact Ext.refl _ | assumption | refine Ext.alloc ?_ _ | refine Ext.drew ?_ | refine Ext.drewN ?_ _ | refine Ext.setCell ?_ (by first | (simp; done) | (simp; omega) | omega) _ | refine Ext.trans ?_ (by assumption)))) (by first | (simp; done) | (simp; omega) | omega))) (.inl (ownsRow_mono (row_ext hu (by repeat (first | exact Ext.refl _ | assumption | refine Ext.alloc ?_ _ | refine Ext.drew ?_ | refine Ext.drewN ?_ _ | refine Ext.setCell ?_ (by first | (simp; done) | (simp; omega) | omega) _ | refine Ext.trans ?_ (by assumption)))) (by first | (simp; done) | (simp; omega) | omega))) 0 _ _ (intCell [(x : Int)]) rfl (by first | exact (Boxed.new w3 [.int .i64 (x : Int)] 2).row rfl (int_cells _) | exact (((Boxed.new w2 [.int .i64 (x : Int)] 2).ext ((Ext.refl _).drew)).ext hx3).row rfl (int_cells _)) (fun _ _ => rfl) (by simp [maxLen]) (by simp) (by have := hx3.size; simp at this ⊢; omega) ?_; intro v4 w4 hown4 hput4; obtain ⟨A4, c4, rfl⟩ := ownsRow_len hown4; have Hx4 : Hid (Ext w2 w4) := Lib.hid (hput4.ext (show Ext w2 _ from (by repeat (first | exact Ext.refl _ | assumption | refine Ext.alloc ?_ _ | refine Ext.drew ?_ | refine Ext.drewN ?_ _ | refine Ext.setCell ?_ (by first | (simp; done) | (simp; omega) | omega) _ | refine Ext.trans ?_ (by assumption)))) (Nat.le_refl _)); obtain ⟨g4, hg4, ho4⟩ := Own.of_owned (f := intCell (([] : List Int) ++ [(x : Int)])) (show w4.ownsRow w2.heap.size 2 1 _ (([] : List Int) ++ [(x : Int)]).length (cellsOf ((([] : List Int) ++ [(x : Int)]).length * 1) (intCell (([] : List Int) ++ [(x : Int)]))) from by rw [← intCells_push, List.length_append]; exact hown4); have Hg4 := Lib.hid hg4; have Ho4 := Lib.hid ho4; have eb := Hn2.out.ext Hx4.out; have eb0 := eb.at0; have eb1 := eb.at1; have ebg := eb.1; have Heb := Lib.hid eb; clear eb; clear hown4 hput4 hg4 ho4)
          | (go_simp; go_at_call 195; refine Calls.mono (spec_l01Own _ ([] : List Int) _ (Hl.out.up (hxw2.trans (by repeat (first | exact Ext.refl _ | assumption | refine Ext.alloc ?_ _ | refine Ext.drew ?_ | refine Ext.drewN ?_ _ | refine Ext.setCell ?_ (by first | (simp; done) | (simp; omega) | omega) _ | refine Ext.trans ?_ (by assumption))))) (by simp)) ?_; rintro e w3 ⟨uv, rfl, hx3, hu⟩; obtain ⟨Au, cu, rfl⟩ := ownsRow_len hu; have cb := Hn2.out.ext (show Ext w2 w3 from (by repeat (first | exact Ext.refl _ | assumption | refine Ext.alloc ?_ _ | refine Ext.drew ?_ | refine Ext.drewN ?_ _ | refine Ext.setCell ?_ (by first | (simp; done) | (simp; omega) | omega) _ | refine Ext.trans ?_ (by assumption)))); have cb0 := cb.at0; have cb1 := cb.at1; have cbg := cb.1; have Hcb := Lib.hid cb; clear cb)
          | (go_simp; go_at_call 127; refine Calls.mono (Hih.out x hfx hlt _ g4 lo _ (H.out.up (hxw2.trans Hx4.out)) Ho4.out (fun h0 => by have := (Hg4.out h0).2; have := Hlo.out; omega) (by have := Hlo.out; have := Hx4.out.size; omega)) ?_; rintro e w5 ⟨v5, rfl, hx5, hv5⟩))
        all_goals
          have Hx5 : Hid (Ext w w5) := Lib.hid ((hxw2.trans Hx4.out).trans hx5)
          have Hv5 := Lib.hid hv5
          have Hb5 := Lib.hid ((Hn2.out.ext Hx4.out).ext hx5)
          clear hv5
          by_cases hp : P x
          · have Hp := Lib.hid hp
            have Hfi := Lib.hid (firstP_from (N := N) hfx hlt Hno.out hp)
            obtain ⟨g5, ho5, hg5⟩ := Hv5.out hp
            obtain ⟨A5, c5, rfl⟩ := ho5.len
            have Ho5 := Lib.hid ho5
            have Hg5 := Lib.hid hg5
            rw [B_true hp]
            clear hp ho5 hg5
            go_wp2_with fail
            go_ret2
            unfold SePost
            rw [← HN.out, Hfi.out, B_true (show ∃ x, 0 ≤ x ∧ x < N ∧ P x from ⟨x, hfx, hlt, Hp.out⟩)]
            exact ⟨_, rfl, Hx5.out, fun _ => ⟨g5, Ho5.out, Hg5.out⟩⟩
          · have Hp := Lib.hid hp
            have hx5w := Hx5.out
            rw [B_false hp]
            clear hp
            go_wp2_with fail
            go_roundg (N - (x + 1))
            case measure => omega
            case rel => exact ⟨x + 1, by omega, by omega, by go_num, hx5w, Hb5.out, Lib.hid (fun y h1 h2 => by
              by_cases e : y = x
              · subst e; exact Hp.out
              · exact Hno.out y h1 (by omega))⟩
      · obtain rfl : x = N := by omega
        have T1 : decide ((x : Int) < (x : Int)) = false := decide_eq_false (by omega)
        go_wp2_with fail
        go_ret2
        unfold SePost
        rw [← HN.out, B_false (show ¬ ∃ y, 0 ≤ y ∧ y < x ∧ P y from fun ⟨y, h1, h2, h3⟩ => Hno.out y h1 h2 h3)]
        exact ⟨_, rfl, (by repeat (first | exact Ext.refl _ | assumption | refine Ext.alloc ?_ _ | refine Ext.drew ?_ | refine Ext.drewN ?_ _ | refine Ext.setCell ?_ (by first | (simp; done) | (simp; omega) | omega) _ | refine Ext.trans ?_ (by assumption))), fun ⟨y, h1, h2, h3⟩ => absurd h3 (Hno.out y h1 h2)⟩
  · obtain ⟨b, off, rfl, hb, hc0⟩ := hcell t rfl
    have ht28 : (t : Int) + 1 ≤ 28 := by omega
    have Hl : Hid (Ints w 0 w.heap.size (.slice (some ⟨b, off, none⟩) 1 c) [(t : Int)]) := Lib.hid Hl.out
    clear hcell hgo
    go_enter Try.func127, Try.ntmps127
    have bb := Boxed.new w [s, k] 27; have bb0 := bb.at0; have bb1 := bb.at1; have bbg := bb.1; have Hbb := Lib.hid bb; clear bb
    go_wp2_with fail
    go_loopg [9] (N - (t + 1)) (fun q i wr => ∃ x : Nat, x + q = N ∧ (t + 1) ≤ x ∧ i = .int .i64 x ∧ Ext w wr ∧ Boxed wr w.heap.size [s, k] ∧ Hid (∀ y, (t + 1) ≤ y → y < x → ¬ P y))
    case atStart => exact ⟨(t + 1), by omega, by omega, by go_num, (by repeat (first | exact Ext.refl _ | assumption | refine Ext.alloc ?_ _ | refine Ext.drew ?_ | refine Ext.drewN ?_ _ | refine Ext.setCell ?_ (by first | (simp; done) | (simp; omega) | omega) _ | refine Ext.trans ?_ (by assumption))), Hbb.out.ext (by repeat (first | exact Ext.refl _ | assumption | refine Ext.alloc ?_ _ | refine Ext.drew ?_ | refine Ext.drewN ?_ _ | refine Ext.setCell ?_ (by first | (simp; done) | (simp; omega) | omega) _ | refine Ext.trans ?_ (by assumption))), Lib.hid (fun y h1 h2 => absurd h1 (by omega))⟩
    clear bb0 bb1 bbg Hbb
    case round =>
      obtain ⟨x, hxq, hfx, rfl, hxr, hnb, Hno⟩ := hrel
      have nb := hnb; have nb0 := nb.at0; have nb1 := nb.at1; have nbg := nb.1; have Hnb := Lib.hid nb; clear nb
      clear hnb
      go_wp2_with fail
      refine Calls.mono (spec_l21Count s k n wr (H.out.up hxr) ⟨by omega, by omega⟩) ?_
      rintro e w2 ⟨rfl, hx2⟩
      have e1 : (n.sets.length : Int) + n.links.length = (N : Int) := by rw [HN.out]; unfold allS; omega
      rw [e1]
      have hxw2 : Ext w w2 := hxr.trans hx2
      have Hn2 := Lib.hid (Hnb.out.ext hx2)
      have hz2 := hxw2.size
      clear nb0 nb1 nbg Hnb hx2 hxr
      have nb := Hn2.out; have nb0 := nb.at0; have nb1 := nb.at1; have nbg := nb.1; have Hnb := Lib.hid nb; clear nb
      by_cases hlt : x < N
      · have T1 : decide ((x : Int) < (N : Int)) = true := decide_eq_true (by omega)
        have T2 : decide (x < N) = true := decide_eq_true hlt
        go_wp2_with fail
        go_region_law (first
          | (refine step_append_row rfl (.tmp 38) (.tmp 40) 28 rfl w2.heap.size 2 1 8 Try.underlying28 (by kernel_rfl) (by omega) _ [(t : Int)].length 1 _ rfl (.inl (ownsRow_mono (row_ext hu (by repeat (first | exact Ext.refl _ | assumption | refine Ext.alloc ?_ _ | refine Ext.drew ?_ | refine Ext.drewN ?_ _ | refine Ext.setCell ?_ (by first | (simp; done) | (simp; omega) | omega) _ | refine Ext.trans ?_ (by assumption)))) (by first | (simp; done) | (simp; omega) | omega))) (.inl (ownsRow_mono (row_ext hu (by repeat (first | exact Ext.refl _ | assumption | refine Ext.alloc ?_ _ | refine Ext.drew ?_ | refine Ext.drewN ?_ _ | refine Ext.setCell ?_ (by first | (simp; done) | (simp; omega) | omega) _ | refine Ext.trans ?_ (by assumption)))) (by first | (simp; done) | (simp; omega) | omega))) 0 _ _ (intCell [(x : Int)]) rfl (by first | exact (Boxed.new w3 [.int .i64 (x : Int)] 2).row rfl (int_cells _) | exact (((Boxed.new w2 [.int .i64 (x : Int)] 2).ext ((Ext.refl _).drew)).ext hx3).row rfl (int_cells _)) (fun _ _ => rfl) (by simp [maxLen]) (by simp) (by have := hx3.size; simp at this ⊢; omega) ?_; intro v4 w4 hown4 hput4; obtain ⟨A4, c4, rfl⟩ := ownsRow_len hown4; have Hx4 : Hid (Ext w2 w4) := Lib.hid (hput4.ext (show Ext w2 _ from (by repeat (first | exact Ext.refl _ | assumption | refine Ext.alloc ?_ _ | refine Ext.drew ?_ | refine Ext.drewN ?_ _ | refine Ext.setCell ?_ (by first | (simp; done) | (simp; omega) | omega) _ | refine Ext.trans ?_ (by assumption)))) (Nat.le_refl _)); obtain ⟨g4, hg4, ho4⟩ := Own.of_owned (f := intCell ([(t : Int)] ++ [(x : Int)])) (show w4.ownsRow w2.heap.size 2 1 _ ([(t : Int)] ++ [(x : Int)]).length (cellsOf (([(t : Int)] ++ [(x : Int)]).length * 1) (intCell ([(t : Int)] ++ [(x : Int)]))) from by rw [← intCells_push, List.length_append]; exact hown4); have Hg4 := Lib.hid hg4; have Ho4 := Lib.hid ho4; have eb := Hn2.out.ext Hx4.out; have eb0 := eb.at0; have eb1 := eb.at1; have ebg := eb.1; have Heb := Lib.hid eb; clear eb; clear hown4 hput4 hg4 ho4)
          | (go_simp; go_at_call 195; refine Calls.mono (spec_l01Own _ [(t : Int)] _ (Hl.out.up (hxw2.trans (by repeat (first | exact Ext.refl _ | assumption | refine Ext.alloc ?_ _ | refine Ext.drew ?_ | refine Ext.drewN ?_ _ | refine Ext.setCell ?_ (by first | (simp; done) | (simp; omega) | omega) _ | refine Ext.trans ?_ (by assumption))))) (by simp)) ?_; rintro e w3 ⟨uv, rfl, hx3, hu⟩; obtain ⟨Au, cu, rfl⟩ := ownsRow_len hu; have cb := Hn2.out.ext (show Ext w2 w3 from (by repeat (first | exact Ext.refl _ | assumption | refine Ext.alloc ?_ _ | refine Ext.drew ?_ | refine Ext.drewN ?_ _ | refine Ext.setCell ?_ (by first | (simp; done) | (simp; omega) | omega) _ | refine Ext.trans ?_ (by assumption)))); have cb0 := cb.at0; have cb1 := cb.at1; have cbg := cb.1; have Hcb := Lib.hid cb; clear cb)
          | (go_simp; go_at_call 127; refine Calls.mono (Hih.out x hfx hlt _ g4 lo _ (H.out.up (hxw2.trans Hx4.out)) Ho4.out (fun h0 => by have := (Hg4.out h0).2; have := Hlo.out; omega) (by have := Hlo.out; have := Hx4.out.size; omega)) ?_; rintro e w5 ⟨v5, rfl, hx5, hv5⟩))
        all_goals
          have Hx5 : Hid (Ext w w5) := Lib.hid ((hxw2.trans Hx4.out).trans hx5)
          have Hv5 := Lib.hid hv5
          have Hb5 := Lib.hid ((Hn2.out.ext Hx4.out).ext hx5)
          clear hv5
          by_cases hp : P x
          · have Hp := Lib.hid hp
            have Hfi := Lib.hid (firstP_from (N := N) hfx hlt Hno.out hp)
            obtain ⟨g5, ho5, hg5⟩ := Hv5.out hp
            obtain ⟨A5, c5, rfl⟩ := ho5.len
            have Ho5 := Lib.hid ho5
            have Hg5 := Lib.hid hg5
            rw [B_true hp]
            clear hp ho5 hg5
            go_wp2_with fail
            go_ret2
            unfold SePost
            rw [← HN.out, Hfi.out, B_true (show ∃ x, (t + 1) ≤ x ∧ x < N ∧ P x from ⟨x, hfx, hlt, Hp.out⟩)]
            exact ⟨_, rfl, Hx5.out, fun _ => ⟨g5, Ho5.out, Hg5.out⟩⟩
          · have Hp := Lib.hid hp
            have hx5w := Hx5.out
            rw [B_false hp]
            clear hp
            go_wp2_with fail
            go_roundg (N - (x + 1))
            case measure => omega
            case rel => exact ⟨x + 1, by omega, by omega, by go_num, hx5w, Hb5.out, Lib.hid (fun y h1 h2 => by
              by_cases e : y = x
              · subst e; exact Hp.out
              · exact Hno.out y h1 (by omega))⟩
      · obtain rfl : x = N := by omega
        have T1 : decide ((x : Int) < (x : Int)) = false := decide_eq_false (by omega)
        go_wp2_with fail
        go_ret2
        unfold SePost
        rw [← HN.out, B_false (show ¬ ∃ y, (t + 1) ≤ y ∧ y < x ∧ P y from fun ⟨y, h1, h2, h3⟩ => Hno.out y h1 h2 h3)]
        exact ⟨_, rfl, (by repeat (first | exact Ext.refl _ | assumption | refine Ext.alloc ?_ _ | refine Ext.drew ?_ | refine Ext.drewN ?_ _ | refine Ext.setCell ?_ (by first | (simp; done) | (simp; omega) | omega) _ | refine Ext.trans ?_ (by assumption))), fun ⟨y, h1, h2, h3⟩ => absurd h3 (Hno.out y h1 h2)⟩
end Go.Proofs.Ytfajmlkiidnhlaa

/- Contracts: the reference's SmallestRepair. -/
namespace Go.Proofs.Ytfajmlkiidnhlaa
set_option linter.unusedVariables false
set_option linter.unusedSimpArgs false
open Go.RowKit
attribute [local go_sem] cell_onto

def Sz1 (n : Net) : Prop := ∃ x, 0 ≤ x ∧ x < allS n ∧ repB n ([] ++ [(x : Int)]) = true
noncomputable def Sz1L (n : Net) : List Int := [] ++ [(firstP (fun x => repB n ([] ++ [(x : Int)]) = true) (allS n) 0 : Int)]
def Sz2P (n : Net) (x : Nat) : Prop := ∃ y, x + 1 ≤ y ∧ y < allS n ∧ repB n ([(x : Int)] ++ [(y : Int)]) = true
noncomputable def Sz2R (n : Net) (x : Nat) : List Int := [(x : Int)] ++ [(firstP (fun y => repB n ([(x : Int)] ++ [(y : Int)]) = true) (allS n) (x + 1) : Int)]
def Sz2 (n : Net) : Prop := ∃ x, 0 ≤ x ∧ x < allS n ∧ Sz2P n x
noncomputable def Sz2L (n : Net) : List Int := Sz2R n (firstP (Sz2P n) (allS n) 0)
theorem sz0 (s k : Value) (n : Net) (hok : NetOk n) (hbl : blN n ≤ 256) : SeOk s k n 0 [] (Sol n) [] := by
  have h := search_0 s k n [] hok hbl
  rwa [repB_nil, show (B (Sol n) = true) = Sol n from propext B_iff] at h
theorem sz1 (s k : Value) (n : Net) (hok : NetOk n) (hbl : blN n ≤ 256) : SeOk s k n 1 [] (Sz1 n) (Sz1L n) :=
  search_more s k n 0 [] 0 (fun x => repB n ([] ++ [(x : Int)]) = true) (fun x => [] ++ [(x : Int)]) hok (by omega) (.inl ⟨rfl, rfl⟩) (by omega) (fun x _ _ => search_0 s k n ([] ++ [(x : Int)]) hok hbl)
theorem sz2 (s k : Value) (n : Net) (hok : NetOk n) (hbl : blN n ≤ 256) : SeOk s k n 2 [] (Sz2 n) (Sz2L n) :=
  search_more s k n 1 [] 0 (Sz2P n) (Sz2R n) hok (by omega) (.inl ⟨rfl, rfl⟩) (by omega) (fun x _ hx =>
    search_more s k n 0 [(x : Int)] (x + 1) (fun y => repB n ([(x : Int)] ++ [(y : Int)]) = true) (fun y => [(x : Int)] ++ [(y : Int)]) hok (by omega) (.inr ⟨x, rfl, rfl⟩) (by omega) (fun y _ _ => search_0 s k n ([(x : Int)] ++ [(y : Int)]) hok hbl))
theorem sz1_yes {n : Net} (h : blE n [] = 0) (h2 : ¬ Sol n) (h3 : Sz1 n) : smE n = 0 ∧ smL n = Sz1L n := by
  obtain ⟨x, _, hx, hr⟩ := h3
  obtain ⟨i, hi, h4, h5⟩ := nat_least (p := Rep1 n) (allS n) ⟨x, hx, hr⟩
  have e : firstP (fun x => repB n ([] ++ [(x : Int)]) = true) (allS n) 0 = i := firstP_from (Nat.zero_le _) hi (fun k _ hk => h5 k hk) h4
  obtain ⟨a, b⟩ := sm_one h h2 hi h4 h5
  refine ⟨a, ?_⟩
  unfold Sz1L
  rw [b, e]
  rfl
theorem sz1_no {n : Net} (h : ¬ Sz1 n) : ∀ k, k < allS n → ¬ Rep1 n k := fun k hk hr => h ⟨k, Nat.zero_le _, hk, hr⟩
theorem sz2P_iff (n : Net) (x : Nat) : Sz2P n x ↔ RepP n x :=
  ⟨fun ⟨y, h1, h2, h3⟩ => ⟨y, by omega, h2, h3⟩, fun ⟨y, h1, h2, h3⟩ => ⟨y, by omega, h2, h3⟩⟩
theorem sz2_yes {n : Net} (h : blE n [] = 0) (h2 : ¬ Sol n) (h1 : ¬ Sz1 n) (h3 : Sz2 n) : smE n = 0 ∧ smL n = Sz2L n := by
  obtain ⟨x, _, hx, hr⟩ := h3
  obtain ⟨i, hi, h4, h5⟩ := nat_least (p := RepP n) (allS n) ⟨x, hx, (sz2P_iff n x).1 hr⟩
  obtain ⟨y, hy1, hy2, hy3⟩ := h4
  obtain ⟨t, ht, ⟨h6, h7⟩, h8⟩ := nat_least (p := fun t => i < t ∧ Rep2 n i t) (allS n) ⟨y, hy2, hy1, hy3⟩
  have e : firstP (Sz2P n) (allS n) 0 = i := firstP_from (Nat.zero_le _) hi (fun k _ hk hh => h5 k hk ((sz2P_iff n k).1 hh)) ((sz2P_iff n i).2 ⟨y, hy1, hy2, hy3⟩)
  have e2 : firstP (fun y => repB n ([(i : Int)] ++ [(y : Int)]) = true) (allS n) (i + 1) = t := firstP_from (by omega) ht (fun k hk1 hk2 hh => h8 k hk2 ⟨by omega, hh⟩) h7
  obtain ⟨a, b⟩ := sm_two h h2 (sz1_no h1) h6 ht h7 h5 (fun k hk1 hk2 hh => h8 k hk2 ⟨hk1, hh⟩)
  refine ⟨a, ?_⟩
  unfold Sz2L Sz2R
  rw [b, e, e2]
  rfl
theorem sz2_no {n : Net} (h : ¬ Sz2 n) : ∀ k, k < allS n → ¬ RepP n k := fun k hk hr => h ⟨k, Nat.zero_le _, hk, (sz2P_iff n k).2 hr⟩
theorem nilOwn2 (w : World) (a : Addr) (b : Nat) : Own w b 1 (.slice (some a) 0 0) ([] : List Int).length (intCell []) := ⟨Nat.zero_le _, _, 0, rfl, Nat.le_refl _, fun h => absurd h (by simp)⟩
set_option maxHeartbeats 8000000 in
theorem spec_SmallestRepair (s k : Value) (n : Net) (w : World) (h : NetIn w s k n) : Calls Try.prog 34 #[.agg #[s, k]] w (NewInts2 (smL n) (smE n) w) := by
  have H := Lib.hid h
  clear h
  go_enter Try.func34, Try.ntmps34
  go_wp2_with fail
  refine Calls.mono (spec_l21Code s k _ n [] _ (H.out.up (by repeat (first | exact Ext.refl _ | assumption | refine Ext.alloc ?_ _ | refine Ext.drew ?_ | refine Ext.drewN ?_ _ | refine Ext.setCell ?_ (by first | (simp; done) | (simp; omega) | omega) _ | refine Ext.trans ?_ (by assumption)))) (nilInts _)) ?_
  rintro e w1 ⟨rfl, hx1⟩
  have hb := (Boxed.new w [s, k] 27).ext hx1; have hb0 := hb.at0; have hb1 := hb.at1; have hbg := hb.1; have Hhb := Lib.hid hb; clear hb
  have hx : Ext w w1 := (by repeat (first | exact Ext.refl _ | assumption | refine Ext.alloc ?_ _ | refine Ext.drew ?_ | refine Ext.drewN ?_ _ | refine Ext.setCell ?_ (by first | (simp; done) | (simp; omega) | omega) _ | refine Ext.trans ?_ (by assumption)))
  have Hb1 : Hid (Boxed w1 w.heap.size [s, k]) := Lib.hid Hhb.out
  clear hx1
  by_cases hc : blE n [] = 0
  · have Hc := Lib.hid hc
    have Hok := Lib.hid (blE_zero hc).1
    have Hbl := Lib.hid (blE_zero hc).2.2
    have hd : (blE n [] != 0) = false := by rw [hc]; rfl
    clear hc
    go_wp2_with fail
    go_loopg [5, 6, 7] 3 (fun q i u6 u7 wr => ∃ j : Nat, j + q = 3 ∧ i = .int .i64 j ∧ Ext w wr ∧ Boxed wr w.heap.size [s, k] ∧ Hid ((0 < j → ¬ Sol n) ∧ (1 < j → ¬ Sz1 n) ∧ (2 < j → ¬ Sz2 n)))
    case atStart => exact ⟨0, by omega, rfl, (by repeat (first | exact Ext.refl _ | assumption | refine Ext.alloc ?_ _ | refine Ext.drew ?_ | refine Ext.drewN ?_ _ | refine Ext.setCell ?_ (by first | (simp; done) | (simp; omega) | omega) _ | refine Ext.trans ?_ (by assumption))), Hb1.out.ext (by repeat (first | exact Ext.refl _ | assumption | refine Ext.alloc ?_ _ | refine Ext.drew ?_ | refine Ext.drewN ?_ _ | refine Ext.setCell ?_ (by first | (simp; done) | (simp; omega) | omega) _ | refine Ext.trans ?_ (by assumption))), Lib.hid ⟨fun h => absurd h (by omega), fun h => absurd h (by omega), fun h => absurd h (by omega)⟩⟩
    clear hb0 hb1 hbg Hhb Hb1
    case round =>
      obtain ⟨j, hj, rfl, hxr, hnb, Hno⟩ := hrel
      have nb := hnb; have nb0 := nb.at0; have nb1 := nb.at1; have nbg := nb.1; have Hnb := Lib.hid nb; clear nb
      have hzr := hxr.size
      clear hnb
      have Hnil : Hid (∀ (P : Prop) (L : List Int), SeOk s k n j [] P L → Calls Try.prog 127 #[.agg #[s, k], .slice (some ⟨wr.heap.size, 0, none⟩) 0 0, .int .i64 j] (wr.alloc (.cells #[] 2)) (SePost P L w.heap.size (wr.alloc (.cells #[] 2)))) := Lib.hid (fun P L hh => hh _ 0 w.heap.size _ (H.out.up (by repeat (first | exact Ext.refl _ | assumption | refine Ext.alloc ?_ _ | refine Ext.drew ?_ | refine Ext.drewN ?_ _ | refine Ext.setCell ?_ (by first | (simp; done) | (simp; omega) | omega) _ | refine Ext.trans ?_ (by assumption)))) (nilOwn2 _ _ _) (fun h => absurd h (by simp)) (by simp; omega))
      have hj3 : j = 0 ∨ j = 1 ∨ j = 2 ∨ j = 3 := by omega
      rcases hj3 with rfl | rfl | rfl | rfl
      · go_wp2_with fail
        refine Calls.mono (Hnil.out (Sol n) [] (sz0 s k n Hok.out Hbl.out)) ?_
        rintro e w2 ⟨v, rfl, hx2, hv⟩
        have Hv2 := Lib.hid hv
        have hxw2 : Ext w w2 := (by repeat (first | exact Ext.refl _ | assumption | refine Ext.alloc ?_ _ | refine Ext.drew ?_ | refine Ext.drewN ?_ _ | refine Ext.setCell ?_ (by first | (simp; done) | (simp; omega) | omega) _ | refine Ext.trans ?_ (by assumption)))
        have Hb2 := Lib.hid (Hnb.out.ext (((Ext.refl wr).alloc _).trans hx2))
        clear hv nb0 nb1 nbg Hnb hx2
        by_cases hp : (Sol n)
        · have Hy := Lib.hid (sm_sol Hc.out hp)
          obtain ⟨g, ho, hg⟩ := Hv2.out hp
          have Ho := Lib.hid ho
          have Hg := Lib.hid hg
          rw [B_true hp]
          clear hp ho hg
          go_wp2_with fail
          go_ret2
          rw [Hy.out.1, Hy.out.2]
          exact ⟨_, g, rfl, (by repeat (first | exact Ext.refl _ | assumption | refine Ext.alloc ?_ _ | refine Ext.drew ?_ | refine Ext.drewN ?_ _ | refine Ext.setCell ?_ (by first | (simp; done) | (simp; omega) | omega) _ | refine Ext.trans ?_ (by assumption))), Hg.out, Ho.out⟩
        · have Hn := Lib.hid (show ((0 < 1 → ¬ Sol n) ∧ (1 < 1 → ¬ Sz1 n) ∧ (2 < 1 → ¬ Sz2 n)) from ⟨fun _ => hp, fun h => absurd h (by omega), fun h => absurd h (by omega)⟩)
          rw [B_false hp]
          clear hp
          go_wp2_with fail
          go_roundg 2
          case measure => omega
          case rel => exact ⟨1, by omega, by go_num, (by repeat (first | exact Ext.refl _ | assumption | refine Ext.alloc ?_ _ | refine Ext.drew ?_ | refine Ext.drewN ?_ _ | refine Ext.setCell ?_ (by first | (simp; done) | (simp; omega) | omega) _ | refine Ext.trans ?_ (by assumption))), Hb2.out, Hn⟩
      · go_wp2_with fail
        refine Calls.mono (Hnil.out (Sz1 n) (Sz1L n) (sz1 s k n Hok.out Hbl.out)) ?_
        rintro e w2 ⟨v, rfl, hx2, hv⟩
        have Hv2 := Lib.hid hv
        have hxw2 : Ext w w2 := (by repeat (first | exact Ext.refl _ | assumption | refine Ext.alloc ?_ _ | refine Ext.drew ?_ | refine Ext.drewN ?_ _ | refine Ext.setCell ?_ (by first | (simp; done) | (simp; omega) | omega) _ | refine Ext.trans ?_ (by assumption)))
        have Hb2 := Lib.hid (Hnb.out.ext (((Ext.refl wr).alloc _).trans hx2))
        clear hv nb0 nb1 nbg Hnb hx2
        by_cases hp : (Sz1 n)
        · have Hy := Lib.hid (sz1_yes Hc.out (Hno.out.1 (by omega)) hp)
          obtain ⟨g, ho, hg⟩ := Hv2.out hp
          have Ho := Lib.hid ho
          have Hg := Lib.hid hg
          rw [B_true hp]
          clear hp ho hg
          go_wp2_with fail
          go_ret2
          rw [Hy.out.1, Hy.out.2]
          exact ⟨_, g, rfl, (by repeat (first | exact Ext.refl _ | assumption | refine Ext.alloc ?_ _ | refine Ext.drew ?_ | refine Ext.drewN ?_ _ | refine Ext.setCell ?_ (by first | (simp; done) | (simp; omega) | omega) _ | refine Ext.trans ?_ (by assumption))), Hg.out, Ho.out⟩
        · have Hn := Lib.hid (show ((0 < 2 → ¬ Sol n) ∧ (1 < 2 → ¬ Sz1 n) ∧ (2 < 2 → ¬ Sz2 n)) from ⟨fun _ => Hno.out.1 (by omega), fun _ => hp, fun h => absurd h (by omega)⟩)
          rw [B_false hp]
          clear hp
          go_wp2_with fail
          go_roundg 1
          case measure => omega
          case rel => exact ⟨2, by omega, by go_num, (by repeat (first | exact Ext.refl _ | assumption | refine Ext.alloc ?_ _ | refine Ext.drew ?_ | refine Ext.drewN ?_ _ | refine Ext.setCell ?_ (by first | (simp; done) | (simp; omega) | omega) _ | refine Ext.trans ?_ (by assumption))), Hb2.out, Hn⟩
      · go_wp2_with fail
        refine Calls.mono (Hnil.out (Sz2 n) (Sz2L n) (sz2 s k n Hok.out Hbl.out)) ?_
        rintro e w2 ⟨v, rfl, hx2, hv⟩
        have Hv2 := Lib.hid hv
        have hxw2 : Ext w w2 := (by repeat (first | exact Ext.refl _ | assumption | refine Ext.alloc ?_ _ | refine Ext.drew ?_ | refine Ext.drewN ?_ _ | refine Ext.setCell ?_ (by first | (simp; done) | (simp; omega) | omega) _ | refine Ext.trans ?_ (by assumption)))
        have Hb2 := Lib.hid (Hnb.out.ext (((Ext.refl wr).alloc _).trans hx2))
        clear hv nb0 nb1 nbg Hnb hx2
        by_cases hp : (Sz2 n)
        · have Hy := Lib.hid (sz2_yes Hc.out (Hno.out.1 (by omega)) (Hno.out.2.1 (by omega)) hp)
          obtain ⟨g, ho, hg⟩ := Hv2.out hp
          have Ho := Lib.hid ho
          have Hg := Lib.hid hg
          rw [B_true hp]
          clear hp ho hg
          go_wp2_with fail
          go_ret2
          rw [Hy.out.1, Hy.out.2]
          exact ⟨_, g, rfl, (by repeat (first | exact Ext.refl _ | assumption | refine Ext.alloc ?_ _ | refine Ext.drew ?_ | refine Ext.drewN ?_ _ | refine Ext.setCell ?_ (by first | (simp; done) | (simp; omega) | omega) _ | refine Ext.trans ?_ (by assumption))), Hg.out, Ho.out⟩
        · have Hn := Lib.hid (show ((0 < 3 → ¬ Sol n) ∧ (1 < 3 → ¬ Sz1 n) ∧ (2 < 3 → ¬ Sz2 n)) from ⟨fun _ => Hno.out.1 (by omega), fun _ => Hno.out.2.1 (by omega), fun _ => hp⟩)
          rw [B_false hp]
          clear hp
          go_wp2_with fail
          go_roundg 0
          case measure => omega
          case rel => exact ⟨3, by omega, by go_num, (by repeat (first | exact Ext.refl _ | assumption | refine Ext.alloc ?_ _ | refine Ext.drew ?_ | refine Ext.drewN ?_ _ | refine Ext.setCell ?_ (by first | (simp; done) | (simp; omega) | omega) _ | refine Ext.trans ?_ (by assumption))), Hb2.out, Hn⟩
      · have Hv := Lib.hid (sm_none Hc.out (Hno.out.1 (by omega)) (sz1_no (Hno.out.2.1 (by omega))) (sz2_no (Hno.out.2.2 (by omega))))
        go_wp2_with fail
        go_ret2
        rw [Hv.out.1, Hv.out.2]
        exact NewInts2.nil 4 (by repeat (first | exact Ext.refl _ | assumption | refine Ext.alloc ?_ _ | refine Ext.drew ?_ | refine Ext.drewN ?_ _ | refine Ext.setCell ?_ (by first | (simp; done) | (simp; omega) | omega) _ | refine Ext.trans ?_ (by assumption)))
  · have Hc := Lib.hid (sm_code hc)
    have hd : (blE n [] != 0) = true := by simp [hc]
    clear hc
    go_wp2_with fail
    go_ret2
    rw [Hc.out.1, Hc.out.2]
    exact NewInts2.nil _ (by repeat (first | exact Ext.refl _ | assumption | refine Ext.alloc ?_ _ | refine Ext.drew ?_ | refine Ext.drewN ?_ _ | refine Ext.setCell ?_ (by first | (simp; done) | (simp; omega) | omega) _ | refine Ext.trans ?_ (by assumption)))
end Go.Proofs.Ytfajmlkiidnhlaa
