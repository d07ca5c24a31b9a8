/- Texts merged (a claim holds at most sixty files): Na, Nt, Sm. -/
import Derived.Test.YtfajmlkiidnhlaaGreatQ3Up
import Derived.Test.YtfajmlkiidnhlaaGreatQ3In
import Derived.Test.YtfajmlkiidnhlaaGreatQ3E
import Derived.Test.YtfajmlkiidnhlaaGreatQ3G
/- Plain: networks narrowed round by round; the answers of IsNarrow, NarrowLink, NarrowRound, NarrowAll. -/
namespace Go.Proofs.YtfajmlkiidnhlaaGreat
set_option linter.unusedVariables false
set_option linter.unusedSimpArgs false

def Fix (n : Net) : Prop := (narR n).sets = n.sets
def itR (n : Net) : Nat → Net
  | 0 => n
  | k + 1 => narR (itR n k)
theorem itR_ok {n : Net} (h : NetD n) : ∀ k, NetD (itR n k) ∧ Sub (itR n k) n
  | 0 => ⟨h, Sub.refl n⟩
  | k + 1 => by
    obtain ⟨h1, h2⟩ := itR_ok h k
    obtain ⟨h3, h4⟩ := narR_ok h1
    exact ⟨h3, h4.trans h2⟩
/-- the rounds before k go on -/
def Goes (n : Net) (k : Nat) : Prop := ∀ j, j < k → ¬ Fix (itR n j) ∧ Lim (itR n (j + 1))
def Stops (n : Net) (k : Nat) : Prop := k ≤ 200 ∧ Goes n k ∧ Fix (itR n k)
theorem Goes.zero (n : Net) : Goes n 0 := fun j hj => absurd hj (by omega)
theorem Goes.step {n : Net} {k : Nat} (h : Goes n k) (h1 : ¬ Fix (itR n k)) (h2 : Lim (itR n (k + 1))) : Goes n (k + 1) := by
  intro j hj
  by_cases e : j = k
  · subst e; exact ⟨h1, h2⟩
  · exact h j (by omega)
theorem Stops.uniq {n : Net} {k l : Nat} (h : Stops n k) (g : Stops n l) : k = l := by
  rcases Nat.lt_trichotomy k l with e | e | e
  · exact absurd h.2.2 (g.2.1 k e).1
  · exact e
  · exact absurd g.2.2 (h.2.1 l e).1
open Classical in
noncomputable def naK (n : Net) : Nat := if h : ∃ k, Stops n k then h.choose else 0
noncomputable def naV (n : Net) : Net := bif B (NetOk n ∧ ∃ k, Stops n k) then itR n (naK n) else ⟨[], []⟩
noncomputable def naC (n : Net) : Int := bif B (NetOk n ∧ ∃ k, Stops n k) then naK n else 0
noncomputable def naE (n : Net) : Int := bif B (NetOk n) then (bif B (∃ k, Stops n k) then 0 else 3) else 1
theorem naK_eq {n : Net} {k : Nat} (h : Stops n k) : naK n = k := by
  have he : ∃ k, Stops n k := ⟨k, h⟩
  unfold naK
  rw [dif_pos he]
  exact he.choose_spec.uniq h
theorem na_yes {n : Net} {k : Nat} (ho : NetOk n) (h : Stops n k) : naV n = itR n k ∧ naC n = k ∧ naE n = 0 := by
  have he : ∃ k, Stops n k := ⟨k, h⟩
  unfold naV naC naE
  rw [B_true (show NetOk n ∧ _ from ⟨ho, he⟩), B_true ho, B_true he, naK_eq h]
  exact ⟨rfl, rfl, rfl⟩
theorem na_no {n : Net} (ho : NetOk n) (h : ¬ ∃ k, Stops n k) : naV n = ⟨[], []⟩ ∧ naC n = 0 ∧ naE n = 3 := by
  unfold naV naC naE
  rw [B_false (fun hh : NetOk n ∧ _ => h hh.2), B_true ho, B_false h]
  exact ⟨rfl, rfl, rfl⟩
theorem na_inv {n : Net} (ho : ¬ NetOk n) : naV n = ⟨[], []⟩ ∧ naC n = 0 ∧ naE n = 1 := by
  unfold naV naC naE
  rw [B_false (fun hh : NetOk n ∧ _ => ho hh.1), B_false ho]
  exact ⟨rfl, rfl, rfl⟩
theorem Goes.wide {n : Net} {k : Nat} (h : Goes n k) (h1 : ¬ Fix (itR n k)) (h2 : ¬ Lim (itR n (k + 1))) : ¬ ∃ k, Stops n k := by
  rintro ⟨l, hl⟩
  rcases Nat.lt_trichotomy l k with e | e | e
  · exact (h l e).1 hl.2.2
  · subst e; exact h1 hl.2.2
  · exact h2 (hl.2.1 k e).2
theorem Goes.end_ {n : Net} (h : Goes n 201) : ¬ ∃ k, Stops n k := by
  rintro ⟨l, hl⟩
  exact (h l (by have := hl.1; omega)).1 hl.2.2
theorem small_nil : Small ⟨[], []⟩ := ⟨Nat.zero_le _, Nat.zero_le _, fun i hi => absurd hi (Nat.not_lt_zero i)⟩
theorem NetD.small' {n : Net} (h : NetD n) : Small n := ⟨by have := h.ns; omega, by have := h.nl; omega, fun i hi => by have := (h.sets i hi).len; omega⟩
theorem naV_small (n : Net) : Small (naV n) := by
  by_cases h : NetOk n
  · by_cases h2 : ∃ k, Stops n k
    · obtain ⟨k, hk⟩ := h2
      rw [(na_yes h hk).1]
      exact (itR_ok h.d k).1.small'
    · rw [(na_no h h2).1]; exact small_nil
  · rw [(na_inv h).1]; exact small_nil

/-- IsNarrow's answer -/
noncomputable def isnV (n : Net) : Bool := B (NetOk n ∧ Fix n)
noncomputable def isnE (n : Net) : Int := bif B (NetOk n) then 0 else 1
theorem isn_ok {n : Net} (h : NetOk n) : isnV n = B (Fix n) ∧ isnE n = 0 := by
  unfold isnV isnE
  rw [B_true h, B_congr (show (NetOk n ∧ Fix n) ↔ Fix n from ⟨fun x => x.2, fun x => ⟨h, x⟩⟩)]
  exact ⟨rfl, rfl⟩
theorem isn_no {n : Net} (h : ¬ NetOk n) : isnV n = false ∧ isnE n = 1 := by
  unfold isnV isnE
  rw [B_false h, B_false (fun x : NetOk n ∧ Fix n => h x.1)]
  exact ⟨rfl, rfl⟩
/-- NarrowRound's answer -/
noncomputable def nrV (n : Net) : Net := bif B (NetOk n) then limV (narR n) else ⟨[], []⟩
noncomputable def nrE (n : Net) : Int := bif B (NetOk n) then limE (narR n) else 1
theorem nr_ok {n : Net} (h : NetOk n) : nrV n = limV (narR n) ∧ nrE n = limE (narR n) := by
  unfold nrV nrE
  rw [B_true h]
  exact ⟨rfl, rfl⟩
theorem nr_no {n : Net} (h : ¬ NetOk n) : nrV n = ⟨[], []⟩ ∧ nrE n = 1 := by
  unfold nrV nrE
  rw [B_false h]
  exact ⟨rfl, rfl⟩
theorem limV_small {n : Net} (h : NetD n) : Small (limV n) := by
  by_cases h2 : Lim n
  · rw [(lim_yes h2).2]; exact h.small'
  · rw [(lim_no h2).2]; exact small_nil
theorem nrV_small (n : Net) : Small (nrV n) := by
  by_cases h : NetOk n
  · rw [(nr_ok h).1]; exact limV_small (narR_ok h.d).1
  · rw [(nr_no h).1]; exact small_nil
end Go.Proofs.YtfajmlkiidnhlaaGreat

/- Networks whose choices may be tried: plain bounds. -/
namespace Go.Proofs.YtfajmlkiidnhlaaGreat
set_option linter.unusedVariables false
set_option linter.unusedSimpArgs false

/-- a network whose choices may be tried -/
structure NetFit (n : Net) : Prop where
  s8 : n.sets.length ≤ 8
  k21 : n.links.length ≤ 21
  lks : LksOk n.links n.sets.length
  sps : ∀ i, i < n.sets.length → ∀ x, x ∈ setAt n.sets i → SpOk x
  fit : SetsFit n.sets
theorem NetFit.of {n : Net} (h : NetOk n) : NetFit n :=
  ⟨h.1, by have := h.2.1; omega, h.2.2.2, fun i hi x hx => by
    obtain ⟨k, hk, e⟩ := mem_spAt hx
    rw [← e]
    exact ((h.2.2.1 i hi).2 k hk).1, SetsFit.of h⟩
theorem NetFit.ch {n : Net} (h : NetFit n) {c : List Sp} (hc : IsCh n.sets c) : c.length = n.sets.length ∧ c.length ≤ 8 ∧ LksOk n.links c.length ∧ SpsOk c := by
  have hl := hc.len
  refine ⟨hl, by have := h.s8; omega, by rw [hl]; exact h.lks, fun i hi => h.sps i (by omega) _ (hc.mem i hi)⟩

end Go.Proofs.YtfajmlkiidnhlaaGreat

/- Contracts: slices.Equal over spans, slices.EqualFunc over sets, sameSets; days counted of sets that may be long. -/
namespace Go.Proofs.YtfajmlkiidnhlaaGreat
set_option linter.unusedVariables false
set_option linter.unusedSimpArgs false
open Go.RowKit
attribute [local go_sem] cell_onto

theorem sp_ext {a b : List Sp} (hl : a.length = b.length) (h : ∀ i, i < a.length → spAt a i = spAt b i) : a = b := by
  refine List.ext_getElem hl (fun i h1 h2 => ?_)
  have := h i h1
  unfold spAt at this
  rw [List.getD_eq_getElem?_getD, List.getD_eq_getElem?_getD, List.getElem?_eq_getElem h1, List.getElem?_eq_getElem h2] at this
  exact this
theorem Sp.eta_eq {a b : Sp} : a = b ↔ a.fr = b.fr ∧ a.to = b.to := by
  cases a; cases b; simp
set_option maxHeartbeats 1000000 in
theorem slices_Equal_spans (v u : Value) (l m : List Sp) (w : World) (h : Spans w 0 w.heap.size v l) (h2 : Spans w 0 w.heap.size u m) :
    Calls Tryz.prog 124 #[v, u] w (RetX (.bool (B (l = m))) w) := by
  obtain ⟨A, c, rfl, hn, hc⟩ := h.len
  obtain ⟨A', c', rfl, hn', hc'⟩ := h2.len
  have H := Lib.hid h
  have H2 := Lib.hid h2
  clear h h2
  by_cases hl : l.length = m.length
  · have hd : ((l.length : Int) != (m.length : Int)) = false := by rw [hl]; exact bne_self_eq_false _
    have Hl := Lib.hid hl
    go_enter Tryz.func124, Tryz.ntmps124
    go_wp2_with fail
    go_loopg [5, 13] l.length (fun q x i wr => ∃ j : Nat, j + q = l.length ∧ i = .int .i64 j ∧ Ext w wr ∧ Hid (∀ i, i < j → spAt l i = spAt m i))
    case atStart => exact ⟨0, by omega, rfl, (by repeat (first | exact Ext.refl _ | assumption | refine Ext.alloc ?_ _ | refine Ext.drew ?_ | refine Ext.drewN ?_ _ | refine Ext.setCell ?_ (by first | (simp; done) | (simp; omega) | omega) _ | refine Ext.trans ?_ (by assumption))), Lib.hid (fun i hi => absurd hi (by omega))⟩
    case round =>
      obtain ⟨j, hj, rfl, hx, He⟩ := hrel
      by_cases hlt : j < l.length
      · have hlt' : j < m.length := by omega
        obtain ⟨b, off, rfl, _, hb, c1, c2⟩ := (H.out.ext hx (Nat.le_refl _)).at_ hlt
        obtain ⟨b', off', rfl, _, hb', c3, c4⟩ := (H2.out.ext hx (Nat.le_refl _)).at_ hlt'
        have hbr : b < wr.heap.size := Nat.lt_of_lt_of_le hb hx.size
        have hbr' : b' < wr.heap.size := Nat.lt_of_lt_of_le hb' hx.size
        by_cases he : spAt l j = spAt m j
        · have He' := Lib.hid he
          rw [he] at c1 c2
          clear he
          go_wp2_with fail
          (refine wp_region_onto prog_mixed (by kernel_rfl) ?_; (repeat (go_big_quiet_step ((fail)))); refine onto_end ?_; intro w1 hx1)
          go_wp2_with fail
          go_roundg (l.length - (j + 1))
          case measure => omega
          case rel =>
            refine ⟨j + 1, by omega, by go_num, (by repeat (first | exact Ext.refl _ | assumption | refine Ext.alloc ?_ _ | refine Ext.drew ?_ | refine Ext.drewN ?_ _ | refine Ext.setCell ?_ (by first | (simp; done) | (simp; omega) | omega) _ | refine Ext.trans ?_ (by assumption))), Lib.hid (fun i hi => ?_)⟩
            by_cases e : i = j
            · subst e; exact He'.out
            · exact He.out i (by omega)
        · have He' := Lib.hid he
          by_cases he1 : (spAt l j).fr = (spAt m j).fr
          · have he2 : ((spAt l j).to == (spAt m j).to) = false := by
              rw [beq_eq_false_iff_ne]
              exact fun hh => He'.out (Sp.eta_eq.2 ⟨he1, hh⟩)
            go_wp2_with fail
            (refine wp_region_onto prog_mixed (by kernel_rfl) ?_; (repeat (go_big_quiet_step ((fail)))); refine onto_end ?_; intro w1 hx1)
            go_wp2_with fail
            go_ret
            exact ⟨ret_bool (B_false (fun hh => He'.out (by rw [hh]))).symm, (by repeat (first | exact Ext.refl _ | assumption | refine Ext.alloc ?_ _ | refine Ext.drew ?_ | refine Ext.drewN ?_ _ | refine Ext.setCell ?_ (by first | (simp; done) | (simp; omega) | omega) _ | refine Ext.trans ?_ (by assumption)))⟩
          · have he2 : ((spAt l j).fr == (spAt m j).fr) = false := by
              rw [beq_eq_false_iff_ne]
              exact he1
            go_wp2_with fail
            (refine wp_region_onto prog_mixed (by kernel_rfl) ?_; (repeat (go_big_quiet_step ((fail)))); refine onto_end ?_; intro w1 hx1)
            go_wp2_with fail
            go_ret
            exact ⟨ret_bool (B_false (fun hh => He'.out (by rw [hh]))).symm, (by repeat (first | exact Ext.refl _ | assumption | refine Ext.alloc ?_ _ | refine Ext.drew ?_ | refine Ext.drewN ?_ _ | refine Ext.setCell ?_ (by first | (simp; done) | (simp; omega) | omega) _ | refine Ext.trans ?_ (by assumption)))⟩
      · obtain rfl : j = l.length := by omega
        go_wp2_with fail
        go_ret
        exact ⟨ret_bool (B_true (sp_ext Hl.out He.out)).symm, (by repeat (first | exact Ext.refl _ | assumption | refine Ext.alloc ?_ _ | refine Ext.drew ?_ | refine Ext.drewN ?_ _ | refine Ext.setCell ?_ (by first | (simp; done) | (simp; omega) | omega) _ | refine Ext.trans ?_ (by assumption)))⟩
  · have hd : ((l.length : Int) != (m.length : Int)) = true := by rw [bne_iff_ne]; omega
    have Hl := Lib.hid hl
    clear hl
    go_enter Tryz.func124, Tryz.ntmps124
    go_wp2_with fail
    go_ret
    exact ⟨ret_bool (B_false (fun hh => Hl.out (by rw [hh]))).symm, (by repeat (first | exact Ext.refl _ | assumption | refine Ext.alloc ?_ _ | refine Ext.drew ?_ | refine Ext.drewN ?_ _ | refine Ext.setCell ?_ (by first | (simp; done) | (simp; omega) | omega) _ | refine Ext.trans ?_ (by assumption)))⟩
set_option maxHeartbeats 1000000 in
theorem slices_EqualFunc_sets (v u : Value) (l m : List (List Sp)) (w : World) (h : Sets w 0 w.heap.size v l) (h2 : Sets w 0 w.heap.size u m) :
    Calls Tryz.prog 123 #[v, u, .func (.func 124) #[] #[]] w (RetX (.bool (B (l = m))) w) := by
  obtain ⟨A, c, rfl, hn, hc⟩ := h.len
  obtain ⟨A', c', rfl, hn', hc'⟩ := h2.len
  have H := Lib.hid h
  have H2 := Lib.hid h2
  clear h h2
  by_cases hl : l.length = m.length
  · have hd : ((l.length : Int) != (m.length : Int)) = false := by rw [hl]; exact bne_self_eq_false _
    have Hl := Lib.hid hl
    clear hl
    go_enter Tryz.func123, Tryz.ntmps123
    go_wp2_with fail
    go_loopg [7, 8, 9, 17] l.length (fun q x7 x8 x9 i wr => ∃ j : Nat, j + q = l.length ∧ i = .int .i64 j ∧ Ext w wr ∧ Hid (∀ i, i < j → setAt l i = setAt m i))
    case atStart => exact ⟨0, by omega, rfl, (by repeat (first | exact Ext.refl _ | assumption | refine Ext.alloc ?_ _ | refine Ext.drew ?_ | refine Ext.drewN ?_ _ | refine Ext.setCell ?_ (by first | (simp; done) | (simp; omega) | omega) _ | refine Ext.trans ?_ (by assumption))), Lib.hid (fun i hi => absurd hi (by omega))⟩
    case round =>
      obtain ⟨j, hj, rfl, hx, He⟩ := hrel
      by_cases hlt : j < l.length
      · have hlt' : j < m.length := by have := Hl.out; omega
        obtain ⟨b, off, a1, rfl, _, hb, c1, s1⟩ := (H.out.ext hx (Nat.le_refl _)).at_ hlt
        obtain ⟨b', off', a2, rfl, _, hb', c3, s2⟩ := (H2.out.ext hx (Nat.le_refl _)).at_ hlt'
        have S1 := Lib.hid (s1.mono (Nat.le_refl 0) hx.size)
        have S2 := Lib.hid (s2.mono (Nat.le_refl 0) hx.size)
        clear s1 s2
        go_wp2_with fail
        refine Calls.mono (slices_Equal_spans a1 a2 _ _ _ (S1.out.ext (by repeat (first | exact Ext.refl _ | assumption | refine Ext.alloc ?_ _ | refine Ext.drew ?_ | refine Ext.drewN ?_ _ | refine Ext.setCell ?_ (by first | (simp; done) | (simp; omega) | omega) _ | refine Ext.trans ?_ (by assumption))) (Nat.le_refl _)) (S2.out.ext (by repeat (first | exact Ext.refl _ | assumption | refine Ext.alloc ?_ _ | refine Ext.drew ?_ | refine Ext.drewN ?_ _ | refine Ext.setCell ?_ (by first | (simp; done) | (simp; omega) | omega) _ | refine Ext.trans ?_ (by assumption))) (Nat.le_refl _))) ?_
        rintro e w1 ⟨rfl, hx1⟩
        by_cases he : setAt l j = setAt m j
        · have He' := Lib.hid he
          rw [B_true he]
          clear he
          go_wp2_with fail
          go_roundg (l.length - (j + 1))
          case measure => omega
          case rel =>
            refine ⟨j + 1, by omega, by go_num, (by repeat (first | exact Ext.refl _ | assumption | refine Ext.alloc ?_ _ | refine Ext.drew ?_ | refine Ext.drewN ?_ _ | refine Ext.setCell ?_ (by first | (simp; done) | (simp; omega) | omega) _ | refine Ext.trans ?_ (by assumption))), Lib.hid (fun i hi => ?_)⟩
            by_cases e : i = j
            · subst e; exact He'.out
            · exact He.out i (by omega)
        · have He' := Lib.hid he
          rw [B_false he]
          clear he
          go_wp2_with fail
          go_ret
          exact ⟨ret_bool (B_false (fun hh => He'.out (by rw [hh]))).symm, (by repeat (first | exact Ext.refl _ | assumption | refine Ext.alloc ?_ _ | refine Ext.drew ?_ | refine Ext.drewN ?_ _ | refine Ext.setCell ?_ (by first | (simp; done) | (simp; omega) | omega) _ | refine Ext.trans ?_ (by assumption)))⟩
      · obtain rfl : j = l.length := by omega
        go_wp2_with fail
        go_ret
        exact ⟨ret_bool (B_true (setAt_ext Hl.out He.out)).symm, (by repeat (first | exact Ext.refl _ | assumption | refine Ext.alloc ?_ _ | refine Ext.drew ?_ | refine Ext.drewN ?_ _ | refine Ext.setCell ?_ (by first | (simp; done) | (simp; omega) | omega) _ | refine Ext.trans ?_ (by assumption)))⟩
  · have hd : ((l.length : Int) != (m.length : Int)) = true := by rw [bne_iff_ne]; omega
    have Hl := Lib.hid hl
    clear hl
    go_enter Tryz.func123, Tryz.ntmps123
    go_wp2_with fail
    go_ret
    exact ⟨ret_bool (B_false (fun hh => Hl.out (by rw [hh]))).symm, (by repeat (first | exact Ext.refl _ | assumption | refine Ext.alloc ?_ _ | refine Ext.drew ?_ | refine Ext.drewN ?_ _ | refine Ext.setCell ?_ (by first | (simp; done) | (simp; omega) | omega) _ | refine Ext.trans ?_ (by assumption)))⟩
set_option maxHeartbeats 1000000 in
theorem impl_sameSets (s k s' k' : Value) (n m : Net) (w : World) (h : NetIn w s k n) (h2 : NetIn w s' k' m) :
    Calls Tryz.prog 67 #[.agg #[s, k], .agg #[s', k']] w (RetX (.bool (B (n.sets = m.sets))) w) := by
  have H := Lib.hid h
  have H2 := Lib.hid h2
  clear h h2
  go_enter Tryz.func67, Tryz.ntmps67
  go_wp2_with (go_at_call 123; refine Calls.mono (slices_EqualFunc_sets s s' n.sets m.sets _ (H.out.up (by repeat (first | exact Ext.refl _ | assumption | refine Ext.alloc ?_ _ | refine Ext.drew ?_ | refine Ext.drewN ?_ _ | refine Ext.setCell ?_ (by first | (simp; done) | (simp; omega) | omega) _ | refine Ext.trans ?_ (by assumption)))).1 (H2.out.up (by repeat (first | exact Ext.refl _ | assumption | refine Ext.alloc ?_ _ | refine Ext.drew ?_ | refine Ext.drewN ?_ _ | refine Ext.setCell ?_ (by first | (simp; done) | (simp; omega) | omega) _ | refine Ext.trans ?_ (by assumption)))).1) ?_; rintro e w1 ⟨rfl, hx1⟩)
  go_ret
  exact ⟨rfl, (by repeat (first | exact Ext.refl _ | assumption | refine Ext.alloc ?_ _ | refine Ext.drew ?_ | refine Ext.drewN ?_ _ | refine Ext.setCell ?_ (by first | (simp; done) | (simp; omega) | omega) _ | refine Ext.trans ?_ (by assumption)))⟩
end Go.Proofs.YtfajmlkiidnhlaaGreat
