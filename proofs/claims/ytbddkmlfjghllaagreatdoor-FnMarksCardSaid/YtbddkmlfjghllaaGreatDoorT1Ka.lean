/- Contracts: searches in rows of strings and of people. (Printed by genKa.py.) -/
import Derived.Test.YtbddkmlfjghllaaGreatDoorT1A
import Derived.Test.YtbddkmlfjghllaaGreatDoorT1Jd
namespace Go.Proofs.YtbddkmlfjghllaaGreatDoor
set_option linter.unusedVariables false
set_option linter.unusedSimpArgs false
open Go.RowKit
attribute [local go_sem] cell_onto

theorem fst_no {p : Nat → Prop} {n : Nat} (h : ∀ i, i < n → ¬ p i) : (-1 : Int) = fstIx p n := (fstIx_none n h).symm
theorem fst_yes {p : Nat → Prop} {n j : Nat} (hj : j < n) (hp : p j) (h : ∀ i, i < j → ¬ p i) : (j : Int) = fstIx p n := (fstIx_at n j hj hp h).symm
set_option maxHeartbeats 2000000 in
theorem slices_Index_strs (v : Value) (l : List ByteArray) (x : ByteArray) (w : World) (h : Strs w 0 w.heap.size v l) : Calls Tryz.prog 203 #[v, .string x] w (RetX (.int .i64 (fstIx (fun i => strAt l i = x) l.length)) w) := by
  obtain ⟨A, c, rfl, hn, hc⟩ := h.len
  have H := Lib.hid h
  clear h
  go_enter Tryz.func203, Tryz.ntmps203
  go_wp2_with fail
  go_loopg [5, 8] l.length (fun k u i wr => ∃ j : Nat, j + k = l.length ∧ i = .int .i64 j ∧ Ext w wr ∧ ∀ i, i < j → ¬ (strAt l i = x))
  case atStart => exact ⟨0, by omega, rfl, (by repeat (first | exact Ext.refl _ | assumption | refine Ext.alloc ?_ _ | refine Ext.drew ?_ | refine Ext.drewN ?_ _ | refine Ext.setCell ?_ (by first | (simp; done) | (simp; omega) | omega) _ | refine Ext.trans ?_ (by assumption))), fun i hi => absurd hi (by omega)⟩
  case round =>
    obtain ⟨j, hj, rfl, hx, hok⟩ := hrel
    have Hok := Lib.hid hok
    clear hok
    have hj0 : (0 : Int) ≤ (j : Int) := by omega
    by_cases hlt : j < l.length
    · have hji : (j : Int) < (l.length : Int) := by omega
      obtain ⟨b, off, rfl, _, hb, h1⟩ := (H.out.ext hx (Nat.le_refl _)).at_ hlt
      have hbr : b < wr.heap.size := Nat.lt_of_lt_of_le hb hx.size
      by_cases e : strAt l j = x
      · have E := Lib.hid (fst_yes (p := fun i => strAt l i = x) hlt e Hok.out)
        have T1 := str_is e.symm
        clear e
        go_wp2_with fail
        go_ret
        exact ⟨by rw [← E.out]; rfl, (by repeat (first | exact Ext.refl _ | assumption | refine Ext.alloc ?_ _ | refine Ext.drew ?_ | refine Ext.drewN ?_ _ | refine Ext.setCell ?_ (by first | (simp; done) | (simp; omega) | omega) _ | refine Ext.trans ?_ (by assumption)))⟩
      · have E := Lib.hid e
        have T1 := str_ne (fun h => e h.symm)
        clear e
        go_wp2_with fail
        go_roundg (l.length - (j + 1))
        case measure => omega
        case rel =>
          refine ⟨j + 1, by omega, by go_num, (by repeat (first | exact Ext.refl _ | assumption | refine Ext.alloc ?_ _ | refine Ext.drew ?_ | refine Ext.drewN ?_ _ | refine Ext.setCell ?_ (by first | (simp; done) | (simp; omega) | omega) _ | refine Ext.trans ?_ (by assumption))), fun i hi => ?_⟩
          by_cases e : i = j
          · rw [e]; exact E.out
          · exact Hok.out i (by omega)
    · obtain rfl : j = l.length := by omega
      have hji : ¬ (l.length : Int) < (l.length : Int) := by omega
      have E := Lib.hid (fst_no (p := fun i => strAt l i = x) Hok.out)
      go_wp2_with fail
      go_ret
      exact ⟨by rw [← E.out]; rfl, (by repeat (first | exact Ext.refl _ | assumption | refine Ext.alloc ?_ _ | refine Ext.drew ?_ | refine Ext.drewN ?_ _ | refine Ext.setCell ?_ (by first | (simp; done) | (simp; omega) | omega) _ | refine Ext.trans ?_ (by assumption)))⟩
set_option maxHeartbeats 2000000 in
theorem spec_l01Text (v : Value) (l : List ByteArray) (x : ByteArray) (w : World) (h : Strs w 0 w.heap.size v l) : Calls Tryz.prog 56 #[v, .string x] w (RetX (.int .i64 (fstIx (fun i => strAt l i = x) l.length)) w) := by
  obtain ⟨A, c, rfl, hn, hc⟩ := h.len
  have H := Lib.hid h
  clear h
  go_enter Tryz.func56, Tryz.ntmps56
  go_wp2_with fail
  go_loopg [5] l.length (fun k i wr => ∃ j : Nat, j + k = l.length ∧ i = .int .i64 j ∧ Ext w wr ∧ ∀ i, i < j → ¬ (strAt l i = x))
  case atStart => exact ⟨0, by omega, rfl, (by repeat (first | exact Ext.refl _ | assumption | refine Ext.alloc ?_ _ | refine Ext.drew ?_ | refine Ext.drewN ?_ _ | refine Ext.setCell ?_ (by first | (simp; done) | (simp; omega) | omega) _ | refine Ext.trans ?_ (by assumption))), fun i hi => absurd hi (by omega)⟩
  case round =>
    obtain ⟨j, hj, rfl, hx, hok⟩ := hrel
    have Hok := Lib.hid hok
    clear hok
    have hj0 : (0 : Int) ≤ (j : Int) := by omega
    by_cases hlt : j < l.length
    · have hji : (j : Int) < (l.length : Int) := by omega
      obtain ⟨b, off, rfl, _, hb, h1⟩ := (H.out.ext hx (Nat.le_refl _)).at_ hlt
      have hbr : b < wr.heap.size := Nat.lt_of_lt_of_le hb hx.size
      by_cases e : strAt l j = x
      · have E := Lib.hid (fst_yes (p := fun i => strAt l i = x) hlt e Hok.out)
        have T1 := str_is e
        clear e
        go_wp2_with fail
        go_ret
        exact ⟨by rw [← E.out]; rfl, (by repeat (first | exact Ext.refl _ | assumption | refine Ext.alloc ?_ _ | refine Ext.drew ?_ | refine Ext.drewN ?_ _ | refine Ext.setCell ?_ (by first | (simp; done) | (simp; omega) | omega) _ | refine Ext.trans ?_ (by assumption)))⟩
      · have E := Lib.hid e
        have T1 := str_ne e
        clear e
        go_wp2_with fail
        go_roundg (l.length - (j + 1))
        case measure => omega
        case rel =>
          refine ⟨j + 1, by omega, by go_num, (by repeat (first | exact Ext.refl _ | assumption | refine Ext.alloc ?_ _ | refine Ext.drew ?_ | refine Ext.drewN ?_ _ | refine Ext.setCell ?_ (by first | (simp; done) | (simp; omega) | omega) _ | refine Ext.trans ?_ (by assumption))), fun i hi => ?_⟩
          by_cases e : i = j
          · rw [e]; exact E.out
          · exact Hok.out i (by omega)
    · obtain rfl : j = l.length := by omega
      have hji : ¬ (l.length : Int) < (l.length : Int) := by omega
      have E := Lib.hid (fst_no (p := fun i => strAt l i = x) Hok.out)
      go_wp2_with fail
      go_ret
      exact ⟨by rw [← E.out]; rfl, (by repeat (first | exact Ext.refl _ | assumption | refine Ext.alloc ?_ _ | refine Ext.drew ?_ | refine Ext.drewN ?_ _ | refine Ext.setCell ?_ (by first | (simp; done) | (simp; omega) | omega) _ | refine Ext.trans ?_ (by assumption)))⟩
set_option maxHeartbeats 1000000 in
theorem slices_Contains_strs (v : Value) (l : List ByteArray) (x : ByteArray) (w : World) (h : Strs w 0 w.heap.size v l) : Calls Tryz.prog 173 #[v, .string x] w (RetX (.bool (B (0 ≤ fstIx (fun i => strAt l i = x) l.length))) w) := by
  have H := Lib.hid (slices_Index_strs v l x w h)
  clear h
  go_enter Tryz.func173, Tryz.ntmps173
  go_wp2_with fail
  refine H.out.mono ?_
  rintro e w1 ⟨rfl, hx⟩
  clear H
  obtain ⟨r, hr⟩ : ∃ r, fstIx (fun i => strAt l i = x) l.length = r := ⟨_, rfl⟩
  have Hr := Lib.hid hr
  rw [hr]
  clear hr
  go_wp2_with fail
  go_ret
  exact ⟨ret_bool (B_eq (by rw [Hr.out]; simp)), (by repeat (first | exact Ext.refl _ | assumption | refine Ext.alloc ?_ _ | refine Ext.drew ?_ | refine Ext.drewN ?_ _ | refine Ext.setCell ?_ (by first | (simp; done) | (simp; omega) | omega) _ | refine Ext.trans ?_ (by assumption)))⟩
set_option maxHeartbeats 1000000 in
theorem indexFunc_persons (v : Value) (l : List Nsp) (g : Nat) (caps : Array Value) (p : Nat → Prop) (w : World) (h : Nsps w 0 w.heap.size v l)
    (hg : ∀ (args : Array Value) (w : World), (callFunc g args).run Tryz.prog w = .ok (.enter g args) w)
    (hf : ∀ (i : Nat) (w' : World), i < l.length → Ext w w' → Calls Tryz.prog g (#[.agg #[.string (nspAt l i).nm, .int .i64 (nspAt l i).fr, .int .i64 (nspAt l i).to]] ++ caps) w' (RetX (.bool (B (p i))) w')) :
    Calls Tryz.prog 171 #[v, .func (.func g) #[] caps] w (RetX (.int .i64 (fstIx p l.length)) w) := by
  obtain ⟨A, c, rfl, hn, hc⟩ := h.len
  have H := Lib.hid h
  have Hf := Lib.hid hf
  clear h hf
  go_enter Tryz.func171, Tryz.ntmps171
  go_wp2_with fail
  go_loopg [5, 8] l.length (fun k u i wr => ∃ j : Nat, j + k = l.length ∧ i = .int .i64 j ∧ Ext w wr ∧ ∀ i, i < j → ¬ p i)
  case atStart => exact ⟨0, by omega, rfl, Ext.refl _, fun i hi => absurd hi (by omega)⟩
  case round =>
    obtain ⟨j, hj, rfl, hx, hok⟩ := hrel
    have Hok := Lib.hid hok
    clear hok
    have hj0 : (0 : Int) ≤ (j : Int) := by omega
    by_cases hlt : j < l.length
    · have hji : (j : Int) < (l.length : Int) := by omega
      obtain ⟨b, off, rfl, _, hb, h1, h2, h3⟩ := (H.out.ext hx (Nat.le_refl _)).at_ hlt
      obtain ⟨q, eq⟩ : ∃ q, B (p j) = q := ⟨_, rfl⟩
      have Hq := Lib.hid eq
      clear eq
      go_wp2_with fail
      refine (Hf.out j wr hlt hx).mono ?_
      rintro e w1 ⟨rfl, hx1⟩
      rw [Hq.out]
      cases q with
      | true =>
        have E := Lib.hid (fst_yes hlt (B_iff.1 Hq.out) Hok.out)
        go_wp2_with fail
        go_ret
        exact ⟨by rw [← E.out]; rfl, (by repeat (first | exact Ext.refl _ | assumption | refine Ext.alloc ?_ _ | refine Ext.drew ?_ | refine Ext.drewN ?_ _ | refine Ext.setCell ?_ (by first | (simp; done) | (simp; omega) | omega) _ | refine Ext.trans ?_ (by assumption)))⟩
      | false =>
        go_wp2_with fail
        go_roundg (l.length - (j + 1))
        case measure => omega
        case rel =>
          refine ⟨j + 1, by omega, by go_num, (by repeat (first | exact Ext.refl _ | assumption | refine Ext.alloc ?_ _ | refine Ext.drew ?_ | refine Ext.drewN ?_ _ | refine Ext.setCell ?_ (by first | (simp; done) | (simp; omega) | omega) _ | refine Ext.trans ?_ (by assumption))), fun i hi => ?_⟩
          by_cases e : i = j
          · rw [e]; exact B_not.1 Hq.out
          · exact Hok.out i (by omega)
    · obtain rfl : j = l.length := by omega
      have hji : ¬ (l.length : Int) < (l.length : Int) := by omega
      have E := Lib.hid (fst_no Hok.out)
      go_wp2_with fail
      go_ret
      exact ⟨by rw [← E.out]; rfl, (by repeat (first | exact Ext.refl _ | assumption | refine Ext.alloc ?_ _ | refine Ext.drew ?_ | refine Ext.drewN ?_ _ | refine Ext.setCell ?_ (by first | (simp; done) | (simp; omega) | omega) _ | refine Ext.trans ?_ (by assumption)))⟩
set_option maxHeartbeats 1000000 in
theorem impl_personIndex_f (x : Nsp) (name : ByteArray) (g : Nat) (w : World) (hg : g < w.heap.size) (hc : w.cell? ⟨g, 0, none⟩ = some (.string name)) :
    Calls Tryz.prog 172 #[.agg #[.string x.nm, .int .i64 x.fr, .int .i64 x.to], .pointer (some ⟨g, 0, none⟩)] w (RetX (.bool (B (x.nm = name))) w) := by
  have hg1 : g < w.heap.size + 1 := by omega
  by_cases e : x.nm = name
  · have T := str_is e
    have E := Lib.hid e
    clear e
    go_enter Tryz.func172, Tryz.ntmps172
    go_wp2_with fail
    go_ret
    exact ⟨ret_bool (B_true E.out).symm, (by repeat (first | exact Ext.refl _ | assumption | refine Ext.alloc ?_ _ | refine Ext.drew ?_ | refine Ext.drewN ?_ _ | refine Ext.setCell ?_ (by first | (simp; done) | (simp; omega) | omega) _ | refine Ext.trans ?_ (by assumption)))⟩
  · have T := str_ne e
    have E := Lib.hid e
    clear e
    go_enter Tryz.func172, Tryz.ntmps172
    go_wp2_with fail
    go_ret
    exact ⟨ret_bool (B_false E.out).symm, (by repeat (first | exact Ext.refl _ | assumption | refine Ext.alloc ?_ _ | refine Ext.drew ?_ | refine Ext.drewN ?_ _ | refine Ext.setCell ?_ (by first | (simp; done) | (simp; omega) | omega) _ | refine Ext.trans ?_ (by assumption)))⟩
set_option maxHeartbeats 1000000 in
theorem impl_personIndex (v u : Value) (l : List Nsp) (name : ByteArray) (w : World) (h : Nsps w 0 w.heap.size v l) : Calls Tryz.prog 119 #[.agg #[v, u], .string name] w (RetX (.int .i64 (psIx l name)) w) := by
  have H := Lib.hid h
  clear h
  go_enter Tryz.func119, Tryz.ntmps119
  go_wp2_with fail
  refine Calls.mono (indexFunc_persons v l 172 _ (fun i => (nspAt l i).nm = name) _ (H.out.up (by repeat (first | exact Ext.refl _ | assumption | refine Ext.alloc ?_ _ | refine Ext.drew ?_ | refine Ext.drewN ?_ _ | refine Ext.setCell ?_ (by first | (simp; done) | (simp; omega) | omega) _ | refine Ext.trans ?_ (by assumption)))) Tryz.call172 (fun i w' hi hx => ?_)) ?_
  · have hb := (Boxed.new (w.alloc (.cells #[v, u] 66)) [.string name] 9).ext hx
    have h0 := hb.at0
    simp only [World.size_alloc] at h0
    have hg := hb.1
    simp only [World.size_alloc] at hg
    exact impl_personIndex_f (nspAt l i) name _ w' hg h0
  rintro e w1 ⟨rfl, hx1⟩
  have E := Lib.hid (show fstIx (fun i => (nspAt l i).nm = name) l.length = psIx l name from rfl)
  rw [E.out]
  go_wp2_with fail
  go_ret
  exact ⟨rfl, (by repeat (first | exact Ext.refl _ | assumption | refine Ext.alloc ?_ _ | refine Ext.drew ?_ | refine Ext.drewN ?_ _ | refine Ext.setCell ?_ (by first | (simp; done) | (simp; omega) | omega) _ | refine Ext.trans ?_ (by assumption)))⟩
set_option maxHeartbeats 2000000 in
theorem spec_l13Person (v u : Value) (l : List Nsp) (x : ByteArray) (w : World) (h : Nsps w 0 w.heap.size v l) : Calls Tryz.prog 107 #[.agg #[v, u], .string x] w (RetX (.int .i64 (psIx l x)) w) := by
  obtain ⟨A, c, rfl, hn, hc⟩ := h.len
  have H := Lib.hid h
  have Hb := Lib.hid (Boxed.new w [.slice A l.length c, u] 66)
  clear h
  go_enter Tryz.func107, Tryz.ntmps107
  go_wp2_with fail
  go_loopg [5] l.length (fun k i wr => ∃ j : Nat, j + k = l.length ∧ i = .int .i64 j ∧ Ext (w.alloc (.cells #[.slice A l.length c, u] 66)) wr ∧ ∀ i, i < j → ¬ ((nspAt l i).nm = x))
  case atStart => exact ⟨0, by omega, rfl, (by repeat (first | exact Ext.refl _ | assumption | refine Ext.alloc ?_ _ | refine Ext.drew ?_ | refine Ext.drewN ?_ _ | refine Ext.setCell ?_ (by first | (simp; done) | (simp; omega) | omega) _ | refine Ext.trans ?_ (by assumption))), fun i hi => absurd hi (by omega)⟩
  case round =>
    obtain ⟨j, hj, rfl, hx0, hok⟩ := hrel
    have Hok := Lib.hid hok
    clear hok
    have hx : Ext w wr := (by repeat (first | exact Ext.refl _ | assumption | refine Ext.alloc ?_ _ | refine Ext.drew ?_ | refine Ext.drewN ?_ _ | refine Ext.setCell ?_ (by first | (simp; done) | (simp; omega) | omega) _ | refine Ext.trans ?_ (by assumption)))
    have bx := Hb.out.ext hx0; have bx0 := bx.at0; have bx1 := bx.at1; have bxg := bx.1; have Hbx := Lib.hid bx; clear bx
    have hj0 : (0 : Int) ≤ (j : Int) := by omega
    by_cases hlt : j < l.length
    · have hji : (j : Int) < (l.length : Int) := by omega
      obtain ⟨b, off, rfl, _, hb, h1, h2, h3⟩ := (H.out.ext hx (Nat.le_refl _)).at_ hlt
      have hbr : b < wr.heap.size := Nat.lt_of_lt_of_le hb hx.size
      by_cases e : (nspAt l j).nm = x
      · have E := Lib.hid (show (j : Int) = psIx l x from fst_yes (p := fun i => (nspAt l i).nm = x) hlt e Hok.out)
        have T1 := str_is e
        clear e
        go_wp2_with fail
        go_ret
        exact ⟨by rw [← E.out]; rfl, (by repeat (first | exact Ext.refl _ | assumption | refine Ext.alloc ?_ _ | refine Ext.drew ?_ | refine Ext.drewN ?_ _ | refine Ext.setCell ?_ (by first | (simp; done) | (simp; omega) | omega) _ | refine Ext.trans ?_ (by assumption)))⟩
      · have E := Lib.hid e
        have T1 := str_ne e
        clear e
        go_wp2_with fail
        go_roundg (l.length - (j + 1))
        case measure => omega
        case rel =>
          refine ⟨j + 1, by omega, by go_num, (by repeat (first | exact Ext.refl _ | assumption | refine Ext.alloc ?_ _ | refine Ext.drew ?_ | refine Ext.drewN ?_ _ | refine Ext.setCell ?_ (by first | (simp; done) | (simp; omega) | omega) _ | refine Ext.trans ?_ (by assumption))), fun i hi => ?_⟩
          by_cases e : i = j
          · rw [e]; exact E.out
          · exact Hok.out i (by omega)
    · obtain rfl : j = l.length := by omega
      have hji : ¬ (l.length : Int) < (l.length : Int) := by omega
      have E := Lib.hid (show (-1 : Int) = psIx l x from fst_no (p := fun i => (nspAt l i).nm = x) Hok.out)
      go_wp2_with fail
      go_ret
      exact ⟨by rw [← E.out]; rfl, (by repeat (first | exact Ext.refl _ | assumption | refine Ext.alloc ?_ _ | refine Ext.drew ?_ | refine Ext.drewN ?_ _ | refine Ext.setCell ?_ (by first | (simp; done) | (simp; omega) | omega) _ | refine Ext.trans ?_ (by assumption)))⟩
end Go.Proofs.YtbddkmlfjghllaaGreatDoor
