/- Texts merged (a claim holds at most sixty files): Ka, Qf, Jh, Jy. -/
import Derived.Test.YtmmokjnljaifcaaGreatDoorE1A
import Derived.Test.YtmmokjnljaifcaaGreatDoorE1Jd
import Derived.IntWalk
/- Contracts: searches in rows of strings and of people. (Printed by genKa.py.) -/
namespace Go.Proofs.YtmmokjnljaifcaaGreatDoor
set_option linter.unusedVariables false
set_option linter.unusedSimpArgs false
open Go.RowKit
attribute [local go_sem] cell_onto

theorem fst_no {p : Nat → Prop} {n : Nat} (h : ∀ i, i < n → ¬ p i) : (-1 : Int) = fstIx p n := (fstIx_none n h).symm
theorem fst_yes {p : Nat → Prop} {n j : Nat} (hj : j < n) (hp : p j) (h : ∀ i, i < j → ¬ p i) : (j : Int) = fstIx p n := (fstIx_at n j hj hp h).symm
set_option maxHeartbeats 2000000 in
theorem slices_Index_strs (v : Value) (l : List ByteArray) (x : ByteArray) (w : World) (h : Strs w 0 w.heap.size v l) : Calls Tryz.prog 155 #[v, .string x] w (RetX (.int .i64 (fstIx (fun i => strAt l i = x) l.length)) w) := by
  obtain ⟨A, c, rfl, hn, hc⟩ := h.len
  have H := Lib.hid h
  clear h
  go_enter Tryz.func155, Tryz.ntmps155
  go_wp2_with fail
  go_loopg [5, 8] l.length (fun k u i wr => ∃ j : Nat, j + k = l.length ∧ i = .int .i64 j ∧ Ext w wr ∧ ∀ i, i < j → ¬ (strAt l i = x))
  case atStart => exact ⟨0, by omega, rfl, (by repeat (first | exact Ext.refl _ | assumption | refine Ext.alloc ?_ _ | refine Ext.drew ?_ | refine Ext.drewN ?_ _ | refine Ext.setCell ?_ (by first | (simp; done) | (simp; omega) | omega) _ | refine Ext.trans ?_ (by assumption))), fun i hi => absurd hi (by omega)⟩
  case round =>
    obtain ⟨j, hj, rfl, hx, hok⟩ := hrel
    have Hok := Lib.hid hok
    clear hok
    have hj0 : (0 : Int) ≤ (j : Int) := by omega
    by_cases hlt : j < l.length
    · have hji : (j : Int) < (l.length : Int) := by omega
      obtain ⟨b, off, rfl, _, hb, h1⟩ := (H.out.ext hx (Nat.le_refl _)).at_ hlt
      have hbr : b < wr.heap.size := Nat.lt_of_lt_of_le hb hx.size
      by_cases e : strAt l j = x
      · have E := Lib.hid (fst_yes (p := fun i => strAt l i = x) hlt e Hok.out)
        have T1 := str_is e.symm
        clear e
        go_wp2_with fail
        go_ret
        exact ⟨by rw [← E.out]; rfl, (by repeat (first | exact Ext.refl _ | assumption | refine Ext.alloc ?_ _ | refine Ext.drew ?_ | refine Ext.drewN ?_ _ | refine Ext.setCell ?_ (by first | (simp; done) | (simp; omega) | omega) _ | refine Ext.trans ?_ (by assumption)))⟩
      · have E := Lib.hid e
        have T1 := str_ne (fun h => e h.symm)
        clear e
        go_wp2_with fail
        go_roundg (l.length - (j + 1))
        case measure => omega
        case rel =>
          refine ⟨j + 1, by omega, by go_num, (by repeat (first | exact Ext.refl _ | assumption | refine Ext.alloc ?_ _ | refine Ext.drew ?_ | refine Ext.drewN ?_ _ | refine Ext.setCell ?_ (by first | (simp; done) | (simp; omega) | omega) _ | refine Ext.trans ?_ (by assumption))), fun i hi => ?_⟩
          by_cases e : i = j
          · rw [e]; exact E.out
          · exact Hok.out i (by omega)
    · obtain rfl : j = l.length := by omega
      have hji : ¬ (l.length : Int) < (l.length : Int) := by omega
      have E := Lib.hid (fst_no (p := fun i => strAt l i = x) Hok.out)
      go_wp2_with fail
      go_ret
      exact ⟨by rw [← E.out]; rfl, (by repeat (first | exact Ext.refl _ | assumption | refine Ext.alloc ?_ _ | refine Ext.drew ?_ | refine Ext.drewN ?_ _ | refine Ext.setCell ?_ (by first | (simp; done) | (simp; omega) | omega) _ | refine Ext.trans ?_ (by assumption)))⟩
set_option maxHeartbeats 2000000 in
theorem spec_l01Text (v : Value) (l : List ByteArray) (x : ByteArray) (w : World) (h : Strs w 0 w.heap.size v l) : Calls Tryz.prog 76 #[v, .string x] w (RetX (.int .i64 (fstIx (fun i => strAt l i = x) l.length)) w) := by
  obtain ⟨A, c, rfl, hn, hc⟩ := h.len
  have H := Lib.hid h
  clear h
  go_enter Tryz.func76, Tryz.ntmps76
  go_wp2_with fail
  go_loopg [5] l.length (fun k i wr => ∃ j : Nat, j + k = l.length ∧ i = .int .i64 j ∧ Ext w wr ∧ ∀ i, i < j → ¬ (strAt l i = x))
  case atStart => exact ⟨0, by omega, rfl, (by repeat (first | exact Ext.refl _ | assumption | refine Ext.alloc ?_ _ | refine Ext.drew ?_ | refine Ext.drewN ?_ _ | refine Ext.setCell ?_ (by first | (simp; done) | (simp; omega) | omega) _ | refine Ext.trans ?_ (by assumption))), fun i hi => absurd hi (by omega)⟩
  case round =>
    obtain ⟨j, hj, rfl, hx, hok⟩ := hrel
    have Hok := Lib.hid hok
    clear hok
    have hj0 : (0 : Int) ≤ (j : Int) := by omega
    by_cases hlt : j < l.length
    · have hji : (j : Int) < (l.length : Int) := by omega
      obtain ⟨b, off, rfl, _, hb, h1⟩ := (H.out.ext hx (Nat.le_refl _)).at_ hlt
      have hbr : b < wr.heap.size := Nat.lt_of_lt_of_le hb hx.size
      by_cases e : strAt l j = x
      · have E := Lib.hid (fst_yes (p := fun i => strAt l i = x) hlt e Hok.out)
        have T1 := str_is e
        clear e
        go_wp2_with fail
        go_ret
        exact ⟨by rw [← E.out]; rfl, (by repeat (first | exact Ext.refl _ | assumption | refine Ext.alloc ?_ _ | refine Ext.drew ?_ | refine Ext.drewN ?_ _ | refine Ext.setCell ?_ (by first | (simp; done) | (simp; omega) | omega) _ | refine Ext.trans ?_ (by assumption)))⟩
      · have E := Lib.hid e
        have T1 := str_ne e
        clear e
        go_wp2_with fail
        go_roundg (l.length - (j + 1))
        case measure => omega
        case rel =>
          refine ⟨j + 1, by omega, by go_num, (by repeat (first | exact Ext.refl _ | assumption | refine Ext.alloc ?_ _ | refine Ext.drew ?_ | refine Ext.drewN ?_ _ | refine Ext.setCell ?_ (by first | (simp; done) | (simp; omega) | omega) _ | refine Ext.trans ?_ (by assumption))), fun i hi => ?_⟩
          by_cases e : i = j
          · rw [e]; exact E.out
          · exact Hok.out i (by omega)
    · obtain rfl : j = l.length := by omega
      have hji : ¬ (l.length : Int) < (l.length : Int) := by omega
      have E := Lib.hid (fst_no (p := fun i => strAt l i = x) Hok.out)
      go_wp2_with fail
      go_ret
      exact ⟨by rw [← E.out]; rfl, (by repeat (first | exact Ext.refl _ | assumption | refine Ext.alloc ?_ _ | refine Ext.drew ?_ | refine Ext.drewN ?_ _ | refine Ext.setCell ?_ (by first | (simp; done) | (simp; omega) | omega) _ | refine Ext.trans ?_ (by assumption)))⟩
set_option maxHeartbeats 1000000 in
theorem slices_Contains_strs (v : Value) (l : List ByteArray) (x : ByteArray) (w : World) (h : Strs w 0 w.heap.size v l) : Calls Tryz.prog 68 #[v, .string x] w (RetX (.bool (B (0 ≤ fstIx (fun i => strAt l i = x) l.length))) w) := by
  have H := Lib.hid (slices_Index_strs v l x w h)
  clear h
  go_enter Tryz.func68, Tryz.ntmps68
  go_wp2_with fail
  refine H.out.mono ?_
  rintro e w1 ⟨rfl, hx⟩
  clear H
  obtain ⟨r, hr⟩ : ∃ r, fstIx (fun i => strAt l i = x) l.length = r := ⟨_, rfl⟩
  have Hr := Lib.hid hr
  rw [hr]
  clear hr
  go_wp2_with fail
  go_ret
  exact ⟨ret_bool (B_eq (by rw [Hr.out]; simp)), (by repeat (first | exact Ext.refl _ | assumption | refine Ext.alloc ?_ _ | refine Ext.drew ?_ | refine Ext.drewN ?_ _ | refine Ext.setCell ?_ (by first | (simp; done) | (simp; omega) | omega) _ | refine Ext.trans ?_ (by assumption)))⟩
set_option maxHeartbeats 1000000 in
theorem indexFunc_persons (v : Value) (l : List Nsp) (g : Nat) (caps : Array Value) (p : Nat → Prop) (w : World) (h : Nsps w 0 w.heap.size v l)
    (hg : ∀ (args : Array Value) (w : World), (callFunc g args).run Tryz.prog w = .ok (.enter g args) w)
    (hf : ∀ (i : Nat) (w' : World), i < l.length → Ext w w' → Calls Tryz.prog g (#[.agg #[.string (nspAt l i).nm, .int .i64 (nspAt l i).fr, .int .i64 (nspAt l i).to]] ++ caps) w' (RetX (.bool (B (p i))) w')) :
    Calls Tryz.prog 242 #[v, .func (.func g) #[] caps] w (RetX (.int .i64 (fstIx p l.length)) w) := by
  obtain ⟨A, c, rfl, hn, hc⟩ := h.len
  have H := Lib.hid h
  have Hf := Lib.hid hf
  clear h hf
  go_enter Tryz.func242, Tryz.ntmps242
  go_wp2_with fail
  go_loopg [5, 8] l.length (fun k u i wr => ∃ j : Nat, j + k = l.length ∧ i = .int .i64 j ∧ Ext w wr ∧ ∀ i, i < j → ¬ p i)
  case atStart => exact ⟨0, by omega, rfl, Ext.refl _, fun i hi => absurd hi (by omega)⟩
  case round =>
    obtain ⟨j, hj, rfl, hx, hok⟩ := hrel
    have Hok := Lib.hid hok
    clear hok
    have hj0 : (0 : Int) ≤ (j : Int) := by omega
    by_cases hlt : j < l.length
    · have hji : (j : Int) < (l.length : Int) := by omega
      obtain ⟨b, off, rfl, _, hb, h1, h2, h3⟩ := (H.out.ext hx (Nat.le_refl _)).at_ hlt
      obtain ⟨q, eq⟩ : ∃ q, B (p j) = q := ⟨_, rfl⟩
      have Hq := Lib.hid eq
      clear eq
      go_wp2_with fail
      refine (Hf.out j wr hlt hx).mono ?_
      rintro e w1 ⟨rfl, hx1⟩
      rw [Hq.out]
      cases q with
      | true =>
        have E := Lib.hid (fst_yes hlt (B_iff.1 Hq.out) Hok.out)
        go_wp2_with fail
        go_ret
        exact ⟨by rw [← E.out]; rfl, (by repeat (first | exact Ext.refl _ | assumption | refine Ext.alloc ?_ _ | refine Ext.drew ?_ | refine Ext.drewN ?_ _ | refine Ext.setCell ?_ (by first | (simp; done) | (simp; omega) | omega) _ | refine Ext.trans ?_ (by assumption)))⟩
      | false =>
        go_wp2_with fail
        go_roundg (l.length - (j + 1))
        case measure => omega
        case rel =>
          refine ⟨j + 1, by omega, by go_num, (by repeat (first | exact Ext.refl _ | assumption | refine Ext.alloc ?_ _ | refine Ext.drew ?_ | refine Ext.drewN ?_ _ | refine Ext.setCell ?_ (by first | (simp; done) | (simp; omega) | omega) _ | refine Ext.trans ?_ (by assumption))), fun i hi => ?_⟩
          by_cases e : i = j
          · rw [e]; exact B_not.1 Hq.out
          · exact Hok.out i (by omega)
    · obtain rfl : j = l.length := by omega
      have hji : ¬ (l.length : Int) < (l.length : Int) := by omega
      have E := Lib.hid (fst_no Hok.out)
      go_wp2_with fail
      go_ret
      exact ⟨by rw [← E.out]; rfl, (by repeat (first | exact Ext.refl _ | assumption | refine Ext.alloc ?_ _ | refine Ext.drew ?_ | refine Ext.drewN ?_ _ | refine Ext.setCell ?_ (by first | (simp; done) | (simp; omega) | omega) _ | refine Ext.trans ?_ (by assumption)))⟩
set_option maxHeartbeats 1000000 in
theorem impl_personIndex_f (x : Nsp) (name : ByteArray) (g : Nat) (w : World) (hg : g < w.heap.size) (hc : w.cell? ⟨g, 0, none⟩ = some (.string name)) :
    Calls Tryz.prog 243 #[.agg #[.string x.nm, .int .i64 x.fr, .int .i64 x.to], .pointer (some ⟨g, 0, none⟩)] w (RetX (.bool (B (x.nm = name))) w) := by
  have hg1 : g < w.heap.size + 1 := by omega
  by_cases e : x.nm = name
  · have T := str_is e
    have E := Lib.hid e
    clear e
    go_enter Tryz.func243, Tryz.ntmps243
    go_wp2_with fail
    go_ret
    exact ⟨ret_bool (B_true E.out).symm, (by repeat (first | exact Ext.refl _ | assumption | refine Ext.alloc ?_ _ | refine Ext.drew ?_ | refine Ext.drewN ?_ _ | refine Ext.setCell ?_ (by first | (simp; done) | (simp; omega) | omega) _ | refine Ext.trans ?_ (by assumption)))⟩
  · have T := str_ne e
    have E := Lib.hid e
    clear e
    go_enter Tryz.func243, Tryz.ntmps243
    go_wp2_with fail
    go_ret
    exact ⟨ret_bool (B_false E.out).symm, (by repeat (first | exact Ext.refl _ | assumption | refine Ext.alloc ?_ _ | refine Ext.drew ?_ | refine Ext.drewN ?_ _ | refine Ext.setCell ?_ (by first | (simp; done) | (simp; omega) | omega) _ | refine Ext.trans ?_ (by assumption)))⟩
set_option maxHeartbeats 1000000 in
theorem impl_personIndex (v u : Value) (l : List Nsp) (name : ByteArray) (w : World) (h : Nsps w 0 w.heap.size v l) : Calls Tryz.prog 161 #[.agg #[v, u], .string name] w (RetX (.int .i64 (psIx l name)) w) := by
  have H := Lib.hid h
  clear h
  go_enter Tryz.func161, Tryz.ntmps161
  go_wp2_with fail
  refine Calls.mono (indexFunc_persons v l 243 _ (fun i => (nspAt l i).nm = name) _ (H.out.up (by repeat (first | exact Ext.refl _ | assumption | refine Ext.alloc ?_ _ | refine Ext.drew ?_ | refine Ext.drewN ?_ _ | refine Ext.setCell ?_ (by first | (simp; done) | (simp; omega) | omega) _ | refine Ext.trans ?_ (by assumption)))) Tryz.call243 (fun i w' hi hx => ?_)) ?_
  · have hb := (Boxed.new (w.alloc (.cells #[v, u] 30)) [.string name] 9).ext hx
    have h0 := hb.at0
    simp only [World.size_alloc] at h0
    have hg := hb.1
    simp only [World.size_alloc] at hg
    exact impl_personIndex_f (nspAt l i) name _ w' hg h0
  rintro e w1 ⟨rfl, hx1⟩
  have E := Lib.hid (show fstIx (fun i => (nspAt l i).nm = name) l.length = psIx l name from rfl)
  rw [E.out]
  go_wp2_with fail
  go_ret
  exact ⟨rfl, (by repeat (first | exact Ext.refl _ | assumption | refine Ext.alloc ?_ _ | refine Ext.drew ?_ | refine Ext.drewN ?_ _ | refine Ext.setCell ?_ (by first | (simp; done) | (simp; omega) | omega) _ | refine Ext.trans ?_ (by assumption)))⟩
set_option maxHeartbeats 2000000 in
theorem spec_l13Person (v u : Value) (l : List Nsp) (x : ByteArray) (w : World) (h : Nsps w 0 w.heap.size v l) : Calls Tryz.prog 172 #[.agg #[v, u], .string x] w (RetX (.int .i64 (psIx l x)) w) := by
  obtain ⟨A, c, rfl, hn, hc⟩ := h.len
  have H := Lib.hid h
  have Hb := Lib.hid (Boxed.new w [.slice A l.length c, u] 30)
  clear h
  go_enter Tryz.func172, Tryz.ntmps172
  go_wp2_with fail
  go_loopg [5] l.length (fun k i wr => ∃ j : Nat, j + k = l.length ∧ i = .int .i64 j ∧ Ext (w.alloc (.cells #[.slice A l.length c, u] 30)) wr ∧ ∀ i, i < j → ¬ ((nspAt l i).nm = x))
  case atStart => exact ⟨0, by omega, rfl, (by repeat (first | exact Ext.refl _ | assumption | refine Ext.alloc ?_ _ | refine Ext.drew ?_ | refine Ext.drewN ?_ _ | refine Ext.setCell ?_ (by first | (simp; done) | (simp; omega) | omega) _ | refine Ext.trans ?_ (by assumption))), fun i hi => absurd hi (by omega)⟩
  case round =>
    obtain ⟨j, hj, rfl, hx0, hok⟩ := hrel
    have Hok := Lib.hid hok
    clear hok
    have hx : Ext w wr := (by repeat (first | exact Ext.refl _ | assumption | refine Ext.alloc ?_ _ | refine Ext.drew ?_ | refine Ext.drewN ?_ _ | refine Ext.setCell ?_ (by first | (simp; done) | (simp; omega) | omega) _ | refine Ext.trans ?_ (by assumption)))
    have bx := Hb.out.ext hx0; have bx0 := bx.at0; have bx1 := bx.at1; have bxg := bx.1; have Hbx := Lib.hid bx; clear bx
    have hj0 : (0 : Int) ≤ (j : Int) := by omega
    by_cases hlt : j < l.length
    · have hji : (j : Int) < (l.length : Int) := by omega
      obtain ⟨b, off, rfl, _, hb, h1, h2, h3⟩ := (H.out.ext hx (Nat.le_refl _)).at_ hlt
      have hbr : b < wr.heap.size := Nat.lt_of_lt_of_le hb hx.size
      by_cases e : (nspAt l j).nm = x
      · have E := Lib.hid (show (j : Int) = psIx l x from fst_yes (p := fun i => (nspAt l i).nm = x) hlt e Hok.out)
        have T1 := str_is e
        clear e
        go_wp2_with fail
        go_ret
        exact ⟨by rw [← E.out]; rfl, (by repeat (first | exact Ext.refl _ | assumption | refine Ext.alloc ?_ _ | refine Ext.drew ?_ | refine Ext.drewN ?_ _ | refine Ext.setCell ?_ (by first | (simp; done) | (simp; omega) | omega) _ | refine Ext.trans ?_ (by assumption)))⟩
      · have E := Lib.hid e
        have T1 := str_ne e
        clear e
        go_wp2_with fail
        go_roundg (l.length - (j + 1))
        case measure => omega
        case rel =>
          refine ⟨j + 1, by omega, by go_num, (by repeat (first | exact Ext.refl _ | assumption | refine Ext.alloc ?_ _ | refine Ext.drew ?_ | refine Ext.drewN ?_ _ | refine Ext.setCell ?_ (by first | (simp; done) | (simp; omega) | omega) _ | refine Ext.trans ?_ (by assumption))), fun i hi => ?_⟩
          by_cases e : i = j
          · rw [e]; exact E.out
          · exact Hok.out i (by omega)
    · obtain rfl : j = l.length := by omega
      have hji : ¬ (l.length : Int) < (l.length : Int) := by omega
      have E := Lib.hid (show (-1 : Int) = psIx l x from fst_no (p := fun i => (nspAt l i).nm = x) Hok.out)
      go_wp2_with fail
      go_ret
      exact ⟨by rw [← E.out]; rfl, (by repeat (first | exact Ext.refl _ | assumption | refine Ext.alloc ?_ _ | refine Ext.drew ?_ | refine Ext.drewN ?_ _ | refine Ext.setCell ?_ (by first | (simp; done) | (simp; omega) | omega) _ | refine Ext.trans ?_ (by assumption)))⟩
end Go.Proofs.YtmmokjnljaifcaaGreatDoor

/- Contracts: searches in rows of clauses, witnesses and deeds. (Printed by genQf.py.) -/
namespace Go.Proofs.YtmmokjnljaifcaaGreatDoor
set_option linter.unusedVariables false
set_option linter.unusedSimpArgs false
open Go.RowKit
attribute [local go_sem] cell_onto

set_option maxHeartbeats 1000000 in
theorem indexFunc_clauses (v : Value) (l : List Cls) (g : Nat) (caps : Array Value) (p : Nat → Prop) (w : World) (h : Clss w 0 w.heap.size v l)
    (hg : ∀ (args : Array Value) (w : World), (callFunc g args).run Tryz.prog w = .ok (.enter g args) w)
    (hf : ∀ (i : Nat) (w' : World), i < l.length → Ext w w' → Calls Tryz.prog g (#[.agg #[.int .i64 (clsAt l i).ki, .int .i64 (clsAt l i).nu, .int .i64 (clsAt l i).mo, .int .i64 (clsAt l i).fe, .int .i64 (clsAt l i).re, .int .i64 (clsAt l i).wd, .int .i64 (clsAt l i).st, .string (clsAt l i).kg]] ++ caps) w' (RetX (.bool (B (p i))) w')) :
    Calls Tryz.prog 305 #[v, .func (.func g) #[] caps] w (RetX (.int .i64 (fstIx p l.length)) w) := by
  obtain ⟨A, c, rfl, hn, hc⟩ := h.len
  have H := Lib.hid h
  have Hf := Lib.hid hf
  clear h hf
  go_enter Tryz.func305, Tryz.ntmps305
  go_wp2_with fail
  go_loopg [5, 8] l.length (fun k u i wr => ∃ j : Nat, j + k = l.length ∧ i = .int .i64 j ∧ Ext w wr ∧ ∀ i, i < j → ¬ p i)
  case atStart => exact ⟨0, by omega, rfl, Ext.refl _, fun i hi => absurd hi (by omega)⟩
  case round =>
    obtain ⟨j, hj, rfl, hx, hok⟩ := hrel
    have Hok := Lib.hid hok
    clear hok
    have hj0 : (0 : Int) ≤ (j : Int) := by omega
    by_cases hlt : j < l.length
    · have hji : (j : Int) < (l.length : Int) := by omega
      obtain ⟨b, off, rfl, _, hb, h1, h2, h3, h4, h5, h6, h7, h8⟩ := (H.out.ext hx (Nat.le_refl _)).at_ hlt
      obtain ⟨q, eq⟩ : ∃ q, B (p j) = q := ⟨_, rfl⟩
      have Hq := Lib.hid eq
      clear eq
      go_wp2_with fail
      refine (Hf.out j wr hlt hx).mono ?_
      rintro e w1 ⟨rfl, hx1⟩
      rw [Hq.out]
      cases q with
      | true =>
        have E := Lib.hid (fst_yes hlt (B_iff.1 Hq.out) Hok.out)
        go_wp2_with fail
        go_ret
        exact ⟨by rw [← E.out]; rfl, (by repeat (first | exact Ext.refl _ | assumption | refine Ext.alloc ?_ _ | refine Ext.drew ?_ | refine Ext.drewN ?_ _ | refine Ext.setCell ?_ (by first | (simp; done) | (simp; omega) | omega) _ | refine Ext.trans ?_ (by assumption)))⟩
      | false =>
        go_wp2_with fail
        go_roundg (l.length - (j + 1))
        case measure => omega
        case rel =>
          refine ⟨j + 1, by omega, by go_num, (by repeat (first | exact Ext.refl _ | assumption | refine Ext.alloc ?_ _ | refine Ext.drew ?_ | refine Ext.drewN ?_ _ | refine Ext.setCell ?_ (by first | (simp; done) | (simp; omega) | omega) _ | refine Ext.trans ?_ (by assumption))), fun i hi => ?_⟩
          by_cases e : i = j
          · rw [e]; exact B_not.1 Hq.out
          · exact Hok.out i (by omega)
    · obtain rfl : j = l.length := by omega
      have hji : ¬ (l.length : Int) < (l.length : Int) := by omega
      have E := Lib.hid (fst_no Hok.out)
      go_wp2_with fail
      go_ret
      exact ⟨by rw [← E.out]; rfl, (by repeat (first | exact Ext.refl _ | assumption | refine Ext.alloc ?_ _ | refine Ext.drew ?_ | refine Ext.drewN ?_ _ | refine Ext.setCell ?_ (by first | (simp; done) | (simp; omega) | omega) _ | refine Ext.trans ?_ (by assumption)))⟩
set_option maxHeartbeats 1000000 in
theorem containsFunc_clauses (v : Value) (l : List Cls) (g : Nat) (caps : Array Value) (p : Nat → Prop) (w : World) (h : Clss w 0 w.heap.size v l)
    (hg : ∀ (args : Array Value) (w : World), (callFunc g args).run Tryz.prog w = .ok (.enter g args) w)
    (hf : ∀ (i : Nat) (w' : World), i < l.length → Ext w w' → Calls Tryz.prog g (#[.agg #[.int .i64 (clsAt l i).ki, .int .i64 (clsAt l i).nu, .int .i64 (clsAt l i).mo, .int .i64 (clsAt l i).fe, .int .i64 (clsAt l i).re, .int .i64 (clsAt l i).wd, .int .i64 (clsAt l i).st, .string (clsAt l i).kg]] ++ caps) w' (RetX (.bool (B (p i))) w')) :
    Calls Tryz.prog 238 #[v, .func (.func g) #[] caps] w (RetX (.bool (B (0 ≤ fstIx p l.length))) w) := by
  have H := Lib.hid (indexFunc_clauses v l g caps p w h hg hf)
  clear h hf hg
  go_enter Tryz.func238, Tryz.ntmps238
  go_wp2_with fail
  refine H.out.mono ?_
  rintro e w1 ⟨rfl, hx⟩
  clear H
  obtain ⟨r, hr⟩ : ∃ r, fstIx p l.length = r := ⟨_, rfl⟩
  have Hr := Lib.hid hr
  rw [hr]
  clear hr
  go_wp2_with fail
  go_ret
  exact ⟨ret_bool (B_eq (by rw [Hr.out]; simp)), (by repeat (first | exact Ext.refl _ | assumption | refine Ext.alloc ?_ _ | refine Ext.drew ?_ | refine Ext.drewN ?_ _ | refine Ext.setCell ?_ (by first | (simp; done) | (simp; omega) | omega) _ | refine Ext.trans ?_ (by assumption)))⟩
set_option maxHeartbeats 1000000 in
theorem indexFunc_witnesses (v : Value) (l : List Wit) (g : Nat) (caps : Array Value) (p : Nat → Prop) (w : World) (h : Wits w 0 w.heap.size v l)
    (hg : ∀ (args : Array Value) (w : World), (callFunc g args).run Tryz.prog w = .ok (.enter g args) w)
    (hf : ∀ (i : Nat) (w' : World), i < l.length → Ext w w' → Calls Tryz.prog g (#[.agg #[.string (witAt l i).pe, .string (witAt l i).of]] ++ caps) w' (RetX (.bool (B (p i))) w')) :
    Calls Tryz.prog 241 #[v, .func (.func g) #[] caps] w (RetX (.int .i64 (fstIx p l.length)) w) := by
  obtain ⟨A, c, rfl, hn, hc⟩ := h.len
  have H := Lib.hid h
  have Hf := Lib.hid hf
  clear h hf
  go_enter Tryz.func241, Tryz.ntmps241
  go_wp2_with fail
  go_loopg [5, 8] l.length (fun k u i wr => ∃ j : Nat, j + k = l.length ∧ i = .int .i64 j ∧ Ext w wr ∧ ∀ i, i < j → ¬ p i)
  case atStart => exact ⟨0, by omega, rfl, Ext.refl _, fun i hi => absurd hi (by omega)⟩
  case round =>
    obtain ⟨j, hj, rfl, hx, hok⟩ := hrel
    have Hok := Lib.hid hok
    clear hok
    have hj0 : (0 : Int) ≤ (j : Int) := by omega
    by_cases hlt : j < l.length
    · have hji : (j : Int) < (l.length : Int) := by omega
      obtain ⟨b, off, rfl, _, hb, h1, h2⟩ := (H.out.ext hx (Nat.le_refl _)).at_ hlt
      obtain ⟨q, eq⟩ : ∃ q, B (p j) = q := ⟨_, rfl⟩
      have Hq := Lib.hid eq
      clear eq
      go_wp2_with fail
      refine (Hf.out j wr hlt hx).mono ?_
      rintro e w1 ⟨rfl, hx1⟩
      rw [Hq.out]
      cases q with
      | true =>
        have E := Lib.hid (fst_yes hlt (B_iff.1 Hq.out) Hok.out)
        go_wp2_with fail
        go_ret
        exact ⟨by rw [← E.out]; rfl, (by repeat (first | exact Ext.refl _ | assumption | refine Ext.alloc ?_ _ | refine Ext.drew ?_ | refine Ext.drewN ?_ _ | refine Ext.setCell ?_ (by first | (simp; done) | (simp; omega) | omega) _ | refine Ext.trans ?_ (by assumption)))⟩
      | false =>
        go_wp2_with fail
        go_roundg (l.length - (j + 1))
        case measure => omega
        case rel =>
          refine ⟨j + 1, by omega, by go_num, (by repeat (first | exact Ext.refl _ | assumption | refine Ext.alloc ?_ _ | refine Ext.drew ?_ | refine Ext.drewN ?_ _ | refine Ext.setCell ?_ (by first | (simp; done) | (simp; omega) | omega) _ | refine Ext.trans ?_ (by assumption))), fun i hi => ?_⟩
          by_cases e : i = j
          · rw [e]; exact B_not.1 Hq.out
          · exact Hok.out i (by omega)
    · obtain rfl : j = l.length := by omega
      have hji : ¬ (l.length : Int) < (l.length : Int) := by omega
      have E := Lib.hid (fst_no Hok.out)
      go_wp2_with fail
      go_ret
      exact ⟨by rw [← E.out]; rfl, (by repeat (first | exact Ext.refl _ | assumption | refine Ext.alloc ?_ _ | refine Ext.drew ?_ | refine Ext.drewN ?_ _ | refine Ext.setCell ?_ (by first | (simp; done) | (simp; omega) | omega) _ | refine Ext.trans ?_ (by assumption)))⟩
set_option maxHeartbeats 1000000 in
theorem containsFunc_witnesses (v : Value) (l : List Wit) (g : Nat) (caps : Array Value) (p : Nat → Prop) (w : World) (h : Wits w 0 w.heap.size v l)
    (hg : ∀ (args : Array Value) (w : World), (callFunc g args).run Tryz.prog w = .ok (.enter g args) w)
    (hf : ∀ (i : Nat) (w' : World), i < l.length → Ext w w' → Calls Tryz.prog g (#[.agg #[.string (witAt l i).pe, .string (witAt l i).of]] ++ caps) w' (RetX (.bool (B (p i))) w')) :
    Calls Tryz.prog 159 #[v, .func (.func g) #[] caps] w (RetX (.bool (B (0 ≤ fstIx p l.length))) w) := by
  have H := Lib.hid (indexFunc_witnesses v l g caps p w h hg hf)
  clear h hf hg
  go_enter Tryz.func159, Tryz.ntmps159
  go_wp2_with fail
  refine H.out.mono ?_
  rintro e w1 ⟨rfl, hx⟩
  clear H
  obtain ⟨r, hr⟩ : ∃ r, fstIx p l.length = r := ⟨_, rfl⟩
  have Hr := Lib.hid hr
  rw [hr]
  clear hr
  go_wp2_with fail
  go_ret
  exact ⟨ret_bool (B_eq (by rw [Hr.out]; simp)), (by repeat (first | exact Ext.refl _ | assumption | refine Ext.alloc ?_ _ | refine Ext.drew ?_ | refine Ext.drewN ?_ _ | refine Ext.setCell ?_ (by first | (simp; done) | (simp; omega) | omega) _ | refine Ext.trans ?_ (by assumption)))⟩
set_option maxHeartbeats 1000000 in
theorem indexFunc_deeds (v : Value) (l : List Ded) (g : Nat) (caps : Array Value) (p : Nat → Prop) (w : World) (h : Deds w 0 w.heap.size v l)
    (hg : ∀ (args : Array Value) (w : World), (callFunc g args).run Tryz.prog w = .ok (.enter g args) w)
    (hf : ∀ (i : Nat) (w' : World), i < l.length → Ext w w' → ∀ vd vw vc, Clss w' 0 w'.heap.size vd (dedAt l i).dt → Wits w' 0 w'.heap.size vw (dedAt l i).wi → Strs w' 0 w'.heap.size vc (dedAt l i).ci → Calls Tryz.prog g (#[.agg #[.string (dedAt l i).nm, vd, vw, .string (dedAt l i).pl, .string (dedAt l i).se, .string (dedAt l i).ha, vc]] ++ caps) w' (RetX (.bool (B (p i))) w')) :
    Calls Tryz.prog 66 #[v, .func (.func g) #[] caps] w (RetX (.int .i64 (fstIx p l.length)) w) := by
  obtain ⟨A, c, rfl, hn, hc⟩ := h.len
  have H := Lib.hid h
  have Hf := Lib.hid hf
  clear h hf
  go_enter Tryz.func66, Tryz.ntmps66
  go_wp2_with fail
  go_loopg [5, 8] l.length (fun k u i wr => ∃ j : Nat, j + k = l.length ∧ i = .int .i64 j ∧ Ext w wr ∧ ∀ i, i < j → ¬ p i)
  case atStart => exact ⟨0, by omega, rfl, Ext.refl _, fun i hi => absurd hi (by omega)⟩
  case round =>
    obtain ⟨j, hj, rfl, hx, hok⟩ := hrel
    have Hok := Lib.hid hok
    clear hok
    have hj0 : (0 : Int) ≤ (j : Int) := by omega
    by_cases hlt : j < l.length
    · have hji : (j : Int) < (l.length : Int) := by omega
      obtain ⟨b, off, vd, vw, vc, rfl, _, hb, h1, h2, h3, h4, h5, h6, h7, kd, kw, kc⟩ := (H.out.up hx).at_ hlt
      obtain ⟨q, eq⟩ : ∃ q, B (p j) = q := ⟨_, rfl⟩
      have Hq := Lib.hid eq
      clear eq
      go_wp2_with fail
      refine (Hf.out j wr hlt hx vd vw vc kd kw kc).mono ?_
      rintro e w1 ⟨rfl, hx1⟩
      rw [Hq.out]
      cases q with
      | true =>
        have E := Lib.hid (fst_yes hlt (B_iff.1 Hq.out) Hok.out)
        go_wp2_with fail
        go_ret
        exact ⟨by rw [← E.out]; rfl, (by repeat (first | exact Ext.refl _ | assumption | refine Ext.alloc ?_ _ | refine Ext.drew ?_ | refine Ext.drewN ?_ _ | refine Ext.setCell ?_ (by first | (simp; done) | (simp; omega) | omega) _ | refine Ext.trans ?_ (by assumption)))⟩
      | false =>
        go_wp2_with fail
        go_roundg (l.length - (j + 1))
        case measure => omega
        case rel =>
          refine ⟨j + 1, by omega, by go_num, (by repeat (first | exact Ext.refl _ | assumption | refine Ext.alloc ?_ _ | refine Ext.drew ?_ | refine Ext.drewN ?_ _ | refine Ext.setCell ?_ (by first | (simp; done) | (simp; omega) | omega) _ | refine Ext.trans ?_ (by assumption))), fun i hi => ?_⟩
          by_cases e : i = j
          · rw [e]; exact B_not.1 Hq.out
          · exact Hok.out i (by omega)
    · obtain rfl : j = l.length := by omega
      have hji : ¬ (l.length : Int) < (l.length : Int) := by omega
      have E := Lib.hid (fst_no Hok.out)
      go_wp2_with fail
      go_ret
      exact ⟨by rw [← E.out]; rfl, (by repeat (first | exact Ext.refl _ | assumption | refine Ext.alloc ?_ _ | refine Ext.drew ?_ | refine Ext.drewN ?_ _ | refine Ext.setCell ?_ (by first | (simp; done) | (simp; omega) | omega) _ | refine Ext.trans ?_ (by assumption)))⟩
set_option maxHeartbeats 1000000 in
theorem indexFunc_strs (v : Value) (l : List ByteArray) (g : Nat) (caps : Array Value) (p : Nat → Prop) (w : World) (h : Strs w 0 w.heap.size v l)
    (hg : ∀ (args : Array Value) (w : World), (callFunc g args).run Tryz.prog w = .ok (.enter g args) w)
    (hf : ∀ (i : Nat) (w' : World), i < l.length → Ext w w' → Calls Tryz.prog g (#[.string (strAt l i)] ++ caps) w' (RetX (.bool (B (p i))) w')) :
    Calls Tryz.prog 156 #[v, .func (.func g) #[] caps] w (RetX (.int .i64 (fstIx p l.length)) w) := by
  obtain ⟨A, c, rfl, hn, hc⟩ := h.len
  have H := Lib.hid h
  have Hf := Lib.hid hf
  clear h hf
  go_enter Tryz.func156, Tryz.ntmps156
  go_wp2_with fail
  go_loopg [5, 8] l.length (fun k u i wr => ∃ j : Nat, j + k = l.length ∧ i = .int .i64 j ∧ Ext w wr ∧ ∀ i, i < j → ¬ p i)
  case atStart => exact ⟨0, by omega, rfl, Ext.refl _, fun i hi => absurd hi (by omega)⟩
  case round =>
    obtain ⟨j, hj, rfl, hx, hok⟩ := hrel
    have Hok := Lib.hid hok
    clear hok
    have hj0 : (0 : Int) ≤ (j : Int) := by omega
    by_cases hlt : j < l.length
    · have hji : (j : Int) < (l.length : Int) := by omega
      obtain ⟨b, off, rfl, _, hb, h1⟩ := (H.out.ext hx (Nat.le_refl _)).at_ hlt
      obtain ⟨q, eq⟩ : ∃ q, B (p j) = q := ⟨_, rfl⟩
      have Hq := Lib.hid eq
      clear eq
      go_wp2_with fail
      refine (Hf.out j wr hlt hx).mono ?_
      rintro e w1 ⟨rfl, hx1⟩
      rw [Hq.out]
      cases q with
      | true =>
        have E := Lib.hid (fst_yes hlt (B_iff.1 Hq.out) Hok.out)
        go_wp2_with fail
        go_ret
        exact ⟨by rw [← E.out]; rfl, (by repeat (first | exact Ext.refl _ | assumption | refine Ext.alloc ?_ _ | refine Ext.drew ?_ | refine Ext.drewN ?_ _ | refine Ext.setCell ?_ (by first | (simp; done) | (simp; omega) | omega) _ | refine Ext.trans ?_ (by assumption)))⟩
      | false =>
        go_wp2_with fail
        go_roundg (l.length - (j + 1))
        case measure => omega
        case rel =>
          refine ⟨j + 1, by omega, by go_num, (by repeat (first | exact Ext.refl _ | assumption | refine Ext.alloc ?_ _ | refine Ext.drew ?_ | refine Ext.drewN ?_ _ | refine Ext.setCell ?_ (by first | (simp; done) | (simp; omega) | omega) _ | refine Ext.trans ?_ (by assumption))), fun i hi => ?_⟩
          by_cases e : i = j
          · rw [e]; exact B_not.1 Hq.out
          · exact Hok.out i (by omega)
    · obtain rfl : j = l.length := by omega
      have hji : ¬ (l.length : Int) < (l.length : Int) := by omega
      have E := Lib.hid (fst_no Hok.out)
      go_wp2_with fail
      go_ret
      exact ⟨by rw [← E.out]; rfl, (by repeat (first | exact Ext.refl _ | assumption | refine Ext.alloc ?_ _ | refine Ext.drew ?_ | refine Ext.drewN ?_ _ | refine Ext.setCell ?_ (by first | (simp; done) | (simp; omega) | omega) _ | refine Ext.trans ?_ (by assumption)))⟩
set_option maxHeartbeats 1000000 in
theorem containsFunc_strs (v : Value) (l : List ByteArray) (g : Nat) (caps : Array Value) (p : Nat → Prop) (w : World) (h : Strs w 0 w.heap.size v l)
    (hg : ∀ (args : Array Value) (w : World), (callFunc g args).run Tryz.prog w = .ok (.enter g args) w)
    (hf : ∀ (i : Nat) (w' : World), i < l.length → Ext w w' → Calls Tryz.prog g (#[.string (strAt l i)] ++ caps) w' (RetX (.bool (B (p i))) w')) :
    Calls Tryz.prog 69 #[v, .func (.func g) #[] caps] w (RetX (.bool (B (0 ≤ fstIx p l.length))) w) := by
  have H := Lib.hid (indexFunc_strs v l g caps p w h hg hf)
  clear h hf hg
  go_enter Tryz.func69, Tryz.ntmps69
  go_wp2_with fail
  refine H.out.mono ?_
  rintro e w1 ⟨rfl, hx⟩
  clear H
  obtain ⟨r, hr⟩ : ∃ r, fstIx p l.length = r := ⟨_, rfl⟩
  have Hr := Lib.hid hr
  rw [hr]
  clear hr
  go_wp2_with fail
  go_ret
  exact ⟨ret_bool (B_eq (by rw [Hr.out]; simp)), (by repeat (first | exact Ext.refl _ | assumption | refine Ext.alloc ?_ _ | refine Ext.drew ?_ | refine Ext.drewN ?_ _ | refine Ext.setCell ?_ (by first | (simp; done) | (simp; omega) | omega) _ | refine Ext.trans ?_ (by assumption)))⟩
theorem some_iff {p : Nat → Prop} {n : Nat} : ¬ 0 ≤ fstIx (fun i => ¬ p i) n ↔ ∀ i, i < n → p i := by
  rcases fstIx_cases (fun i => ¬ p i) n with ⟨h1, h2⟩ | ⟨j, h1, h2, h3, _⟩
  · rw [h1]
    exact ⟨fun _ i hi => Classical.byContradiction fun hh => h2 i hi hh, fun _ => by omega⟩
  · rw [h2]
    exact ⟨fun h => absurd (show (0 : Int) ≤ (j : Int) by omega) h, fun h => absurd (h j h1) h3⟩
end Go.Proofs.YtmmokjnljaifcaaGreatDoor

/- The laws' own helpers for structs of strings and numbers, and for strings. (Printed by genK2.py.) -/
namespace Go.Proofs.YtmmokjnljaifcaaGreatDoor
set_option linter.unusedVariables false
set_option linter.unusedSimpArgs false
open Go.RowKit
attribute [local go_sem] cell_onto

set_option maxHeartbeats 1000000 in
theorem laws_toMark (nm : ByteArray) (fr : Int) (to : Int) (w : World) : Calls Tryz.prog 193 #[.agg #[.string nm, .int .i64 fr, .int .i64 to]] w (RetX (.agg #[.string nm, .int .i64 fr, .int .i64 to]) w) := by
  go_enter Tryz.func193, Tryz.ntmps193
  go_wp2_with fail
  refine bodyPost_ret (v := .agg #[.string nm, .int .i64 fr, .int .i64 to]) (by simp [results, Tryz.results193, go_sem]) rfl ⟨rfl, (by repeat (first | exact Ext.refl _ | assumption | refine Ext.alloc ?_ _ | refine Ext.drew ?_ | refine Ext.drewN ?_ _ | refine Ext.setCell ?_ (by first | (simp; done) | (simp; omega) | omega) _ | refine Ext.trans ?_ (by assumption)))⟩
set_option maxHeartbeats 1000000 in
theorem laws_eqMark (nm : ByteArray) (fr : Int) (to : Int) (w : World) : Calls Tryz.prog 202 #[.agg #[.string nm, .int .i64 fr, .int .i64 to], .agg #[.string nm, .int .i64 fr, .int .i64 to]] w (RetX (.bool true) w) := by
  have hs_nm := str_same nm
  go_enter Tryz.func202, Tryz.ntmps202
  go_wp2_with fail
  go_ret
  exact ⟨rfl, (by repeat (first | exact Ext.refl _ | assumption | refine Ext.alloc ?_ _ | refine Ext.drew ?_ | refine Ext.drewN ?_ _ | refine Ext.setCell ?_ (by first | (simp; done) | (simp; omega) | omega) _ | refine Ext.trans ?_ (by assumption)))⟩
set_option maxHeartbeats 1000000 in
theorem laws_szMark (nm : ByteArray) (fr : Int) (to : Int) (left : Int) (w : World) (hl : left ≤ 1048576) (h0 : 0 ≤ left) (hnm : nm.size ≤ 9223372036854775807) : Calls Tryz.prog 181 #[.agg #[.string nm, .int .i64 fr, .int .i64 to], .int .i64 left] w (SzPost left ((nm.size : Int) ≤ left) w) := by
  have W0 : IntKind.i64.wrap (left - (nm.size : Int)) = left - (nm.size : Int) := IntWalk.i64_in _ (by omega)
  by_cases c0 : left - (nm.size : Int) < 0
  case pos =>
    have d0 : decide (left - (nm.size : Int) < 0) = true := decide_eq_true c0
    go_enter Tryz.func181, Tryz.ntmps181
    go_wp2_with fail
    go_ret
    exact ⟨-1, rfl, (by repeat (first | exact Ext.refl _ | assumption | refine Ext.alloc ?_ _ | refine Ext.drew ?_ | refine Ext.drewN ?_ _ | refine Ext.setCell ?_ (by first | (simp; done) | (simp; omega) | omega) _ | refine Ext.trans ?_ (by assumption))), by omega, by omega, fun h => absurd h (by omega)⟩
  have d0 : decide (left - (nm.size : Int) < 0) = false := decide_eq_false c0
  go_enter Tryz.func181, Tryz.ntmps181
  go_wp2_with fail
  go_ret
  exact ⟨left - (nm.size : Int), rfl, (by repeat (first | exact Ext.refl _ | assumption | refine Ext.alloc ?_ _ | refine Ext.drew ?_ | refine Ext.drewN ?_ _ | refine Ext.setCell ?_ (by first | (simp; done) | (simp; omega) | omega) _ | refine Ext.trans ?_ (by assumption))), by omega, by omega, fun _ => by omega⟩
set_option maxRecDepth 100000 in
set_option maxHeartbeats 2000000 in
theorem laws_szMarkS (v : Value) (l : List Nsp) (left : Int) (w : World) (hl : left ≤ 1048576) (h0 : 0 ≤ left) (h : Nsps w 0 w.heap.size v l) (hz : ∀ i, i < l.length → (nspAt l i).nm.size ≤ 9223372036854775807) : Calls Tryz.prog 90 #[v, .int .i64 left] w (SzPost left ((l.length : Int) ≤ left ∧ ∀ i, i < l.length → ((nspAt l i).nm.size : Int) ≤ left) w) := by
  obtain ⟨A, c, rfl, hn, hc⟩ := h.len
  have H := Lib.hid h
  have Hz := Lib.hid hz
  clear h hz
  have W0 : IntKind.i64.wrap (left - (l.length : Int)) = left - (l.length : Int) := IntWalk.i64_in _ (by omega)
  go_enter Tryz.func90, Tryz.ntmps90
  by_cases c0 : left - (l.length : Int) < 0
  case pos =>
    have d0 : decide (left - (l.length : Int) < 0) = true := decide_eq_true c0
    go_wp2_with fail
    go_ret
    exact ⟨-1, rfl, (by repeat (first | exact Ext.refl _ | assumption | refine Ext.alloc ?_ _ | refine Ext.drew ?_ | refine Ext.drewN ?_ _ | refine Ext.setCell ?_ (by first | (simp; done) | (simp; omega) | omega) _ | refine Ext.trans ?_ (by assumption))), by omega, by omega, fun h => absurd h (by omega)⟩
  have d0 : decide (left - (l.length : Int) < 0) = false := decide_eq_false c0
  go_wp2_with fail
  go_loopg [1, 5] l.length (fun q t i wr => ∃ (j : Nat) (r : Int), j + q = l.length ∧ i = .int .i64 j ∧ t = .int .i64 r ∧ 0 ≤ r ∧ r ≤ left - (l.length : Int) ∧ Ext w wr ∧ ∀ i, i < j → ((nspAt l i).nm.size : Int) ≤ left)
  case atStart => exact ⟨0, _, by omega, rfl, rfl, by omega, by omega, (by repeat (first | exact Ext.refl _ | assumption | refine Ext.alloc ?_ _ | refine Ext.drew ?_ | refine Ext.drewN ?_ _ | refine Ext.setCell ?_ (by first | (simp; done) | (simp; omega) | omega) _ | refine Ext.trans ?_ (by assumption))), fun i hi => absurd hi (by omega)⟩
  case round =>
    obtain ⟨j, r, hj, rfl, rfl, hr0, hr1, hx, hok⟩ := hrel
    have Hok := Lib.hid hok
    clear hok
    by_cases hlt : j < l.length
    · obtain ⟨b, off, rfl, _, hb, h1, h2, h3⟩ := (H.out.ext hx (Nat.le_refl _)).at_ hlt
      have hbr : b < wr.heap.size := Nat.lt_of_lt_of_le hb hx.size
      have hsz := Hz.out j hlt
      go_wp2_with fail
      refine Calls.mono (laws_szMark _ _ _ r _ (by omega) hr0 hsz) ?_
      rintro e w1 ⟨r2, rfl, hx1, hra, hrb, hrc⟩
      have Hrc := Lib.hid hrc
      clear hrc
      by_cases cj : r2 < 0
      · have dj : decide (r2 < 0) = true := decide_eq_true cj
        go_wp2_with fail
        go_ret
        exact ⟨-1, rfl, (by repeat (first | exact Ext.refl _ | assumption | refine Ext.alloc ?_ _ | refine Ext.drew ?_ | refine Ext.drewN ?_ _ | refine Ext.setCell ?_ (by first | (simp; done) | (simp; omega) | omega) _ | refine Ext.trans ?_ (by assumption))), by omega, by omega, fun h => absurd h (by omega)⟩
      · have dj : decide (r2 < 0) = false := decide_eq_false cj
        go_wp2_with fail
        go_roundg (l.length - (j + 1))
        case measure => omega
        case rel =>
          refine ⟨j + 1, r2, by omega, by go_num, rfl, by omega, by omega, (by repeat (first | exact Ext.refl _ | assumption | refine Ext.alloc ?_ _ | refine Ext.drew ?_ | refine Ext.drewN ?_ _ | refine Ext.setCell ?_ (by first | (simp; done) | (simp; omega) | omega) _ | refine Ext.trans ?_ (by assumption))), fun i hi => ?_⟩
          by_cases e : i = j
          · subst e
            have := Hrc.out (by omega)
            omega
          · exact Hok.out i (by omega)
    · obtain rfl : j = l.length := by omega
      go_wp2_with fail
      go_ret
      exact ⟨r, rfl, (by repeat (first | exact Ext.refl _ | assumption | refine Ext.alloc ?_ _ | refine Ext.drew ?_ | refine Ext.drewN ?_ _ | refine Ext.setCell ?_ (by first | (simp; done) | (simp; omega) | omega) _ | refine Ext.trans ?_ (by assumption))), by omega, by omega, fun _ => ⟨by omega, Hok.out⟩⟩
set_option maxRecDepth 100000 in
set_option maxHeartbeats 2000000 in
theorem laws_toMarkS (v : Value) (l : List Nsp) (lo hi : Nat) (w : World) (h : Nsps w lo hi v l) (hh : hi ≤ w.heap.size) (hsm : l.length ≤ 1048576) :
    Calls Tryz.prog 97 #[v] w (NewRow 3 l.length (nspCell l) w) := by
  obtain ⟨A, c, rfl, hn, hc⟩ := h.len
  have H := Lib.hid h
  clear h
  go_enter Tryz.func97, Tryz.ntmps97
  go_wp2_with (at_make; refine wpList_make_blk _ rfl _ _ 36 rfl 203 3 32 Tryz.underlying36 (by kernel_rfl) l.length rfl rfl (by omega) (by unfold maxLen; omega) ?_; intro w0 f0 hx0 hb0)
  have Hb0 := Lib.hid hb0
  clear hb0
  go_wp2_with fail
  go_loopg [4] l.length (fun m i wr => ∃ (j : Nat) (f : Nat → Value), j + m = l.length ∧ i = .int .i64 j ∧ Ext w wr ∧ Blk wr w.heap.size (l.length * 3) f ∧ ∀ i, i < j * 3 → f i = nspCell l i)
  case atStart => exact ⟨0, f0, by omega, rfl, (by repeat (first | exact Ext.refl _ | assumption | refine Ext.alloc ?_ _ | refine Ext.drew ?_ | refine Ext.drewN ?_ _ | refine Ext.setCell ?_ (by first | (simp; done) | (simp; omega) | omega) _ | refine Ext.trans ?_ (by assumption))), Hb0.out, fun i hi => absurd hi (by omega)⟩
  case round =>
    obtain ⟨j, f, hj, rfl, hx, hbl, hok⟩ := hrel
    have Hok := Lib.hid hok
    clear hok
    have hbgr := hbl.1
    by_cases hlt : j < l.length
    · obtain ⟨b, off, rfl, _, hb, h1, h2, h3⟩ := (H.out.ext hx hh).at_ hlt
      have hbw : b < wr.heap.size := by have := hx.size; omega
      go_wp2_with fail
      refine (laws_toMark _ _ _ wr).mono ?_
      rintro e w1 ⟨rfl, hx1⟩
      have hc0 := (hbl.ext hx1).2 (j * 3) (by omega)
      have hc0a := hc0.1
      have hc0b := hc0.2
      have hc1 := (hbl.ext hx1).2 (j * 3 + 1) (by omega)
      have hc1a := hc1.1
      have hc1b := hc1.2
      have hc2 := (hbl.ext hx1).2 (j * 3 + 2) (by omega)
      have hc2a := hc2.1
      have hc2b := hc2.2
      have Hbl := Lib.hid (hbl.ext hx1)
      clear hbl
      have hbg := Hbl.out.1
      go_wp2_with fail
      go_roundg (l.length - (j + 1))
      case measure => omega
      case rel =>
        refine ⟨j + 1, _, by omega, by go_num, (by repeat (first | exact Ext.refl _ | assumption | refine Ext.alloc ?_ _ | refine Ext.drew ?_ | refine Ext.drewN ?_ _ | refine Ext.setCell ?_ (by first | (simp; done) | (simp; omega) | omega) _ | refine Ext.trans ?_ (by assumption))), (((Hbl.out.set (j * 3) (.string (nspAt l j).nm) (by omega)).set (j * 3 + 1) (.int .i64 (nspAt l j).fr) (by omega)).set (j * 3 + 2) (.int .i64 (nspAt l j).to) (by omega)), fun i hi => ?_⟩
        by_cases e2 : i = j * 3 + 2
        · subst e2; simp only [if_true]; exact (nspCell_2 l j).symm
        rw [if_neg e2]
        by_cases e1 : i = j * 3 + 1
        · subst e1; simp only [if_true]; exact (nspCell_1 l j).symm
        rw [if_neg e1]
        by_cases e0 : i = j * 3
        · subst e0; simp only [if_true]; exact (nspCell_0 l j).symm
        rw [if_neg e0]
        exact Hok.out i (by omega)
    · obtain rfl : j = l.length := by omega
      have Hbl := Lib.hid hbl
      clear hbl
      go_wp2_with fail
      go_ret
      exact ⟨_, w.heap.size, rfl, (by repeat (first | exact Ext.refl _ | assumption | refine Ext.alloc ?_ _ | refine Ext.drew ?_ | refine Ext.drewN ?_ _ | refine Ext.setCell ?_ (by first | (simp; done) | (simp; omega) | omega) _ | refine Ext.trans ?_ (by assumption))), fun _ => Nat.le_refl _, Hbl.out.own (Nat.le_refl _) (by unfold maxLen; omega) (Nat.le_refl _) Hok.out⟩
set_option maxHeartbeats 2000000 in
theorem laws_eqMarkS (v v' : Value) (l : List Nsp) (w : World) (h : Nsps w 0 w.heap.size v l) (h' : Nsps w 0 w.heap.size v' l) :
    Calls Tryz.prog 103 #[v, v'] w (RetX (.bool true) w) := by
  obtain ⟨A, c, rfl, hn, hc⟩ := h.len
  obtain ⟨A', c', rfl, _, hc'⟩ := h'.len
  have H := Lib.hid h
  have H' := Lib.hid h'
  clear h h'
  go_enter Tryz.func103, Tryz.ntmps103
  go_wp2_with fail
  go_loopg [5] l.length (fun k i wr => ∃ j : Nat, j + k = l.length ∧ i = .int .i64 j ∧ Ext w wr)
  case atStart => exact ⟨0, by omega, rfl, (by repeat (first | exact Ext.refl _ | assumption | refine Ext.alloc ?_ _ | refine Ext.drew ?_ | refine Ext.drewN ?_ _ | refine Ext.setCell ?_ (by first | (simp; done) | (simp; omega) | omega) _ | refine Ext.trans ?_ (by assumption)))⟩
  case round =>
    obtain ⟨j, hj, rfl, hx⟩ := hrel
    by_cases hlt : j < l.length
    · obtain ⟨b, off, rfl, _, hb, h1, h2, h3⟩ := (H.out.ext hx (Nat.le_refl _)).at_ hlt
      obtain ⟨b', off', rfl, _, hb', h1', h2', h3'⟩ := (H'.out.ext hx (Nat.le_refl _)).at_ hlt
      have hbr : b < wr.heap.size := Nat.lt_of_lt_of_le hb hx.size
      have hbr' : b' < wr.heap.size := Nat.lt_of_lt_of_le hb' hx.size
      go_wp2_with fail
      (refine wp_region_onto prog_mixed (by kernel_rfl) ?_; (repeat (go_big_quiet_step ((go_at_call 202; exact onto_callX (laws_eqMark _ _ _ _))))); refine onto_end ?_; intro w1 hx1)
      go_wp2_with fail
      go_roundg (l.length - (j + 1))
      case measure => omega
      case rel => exact ⟨j + 1, by omega, by go_num, (by repeat (first | exact Ext.refl _ | assumption | refine Ext.alloc ?_ _ | refine Ext.drew ?_ | refine Ext.drewN ?_ _ | refine Ext.setCell ?_ (by first | (simp; done) | (simp; omega) | omega) _ | refine Ext.trans ?_ (by assumption)))⟩
    · obtain rfl : j = l.length := by omega
      go_wp2_with fail
      go_ret
      exact ⟨rfl, (by repeat (first | exact Ext.refl _ | assumption | refine Ext.alloc ?_ _ | refine Ext.drew ?_ | refine Ext.drewN ?_ _ | refine Ext.setCell ?_ (by first | (simp; done) | (simp; omega) | omega) _ | refine Ext.trans ?_ (by assumption)))⟩
set_option maxHeartbeats 1000000 in
theorem laws_toReign (nm : ByteArray) (fr : Int) (to : Int) (w : World) : Calls Tryz.prog 263 #[.agg #[.string nm, .int .i64 fr, .int .i64 to]] w (RetX (.agg #[.string nm, .int .i64 fr, .int .i64 to]) w) := by
  go_enter Tryz.func263, Tryz.ntmps263
  go_wp2_with fail
  refine bodyPost_ret (v := .agg #[.string nm, .int .i64 fr, .int .i64 to]) (by simp [results, Tryz.results263, go_sem]) rfl ⟨rfl, (by repeat (first | exact Ext.refl _ | assumption | refine Ext.alloc ?_ _ | refine Ext.drew ?_ | refine Ext.drewN ?_ _ | refine Ext.setCell ?_ (by first | (simp; done) | (simp; omega) | omega) _ | refine Ext.trans ?_ (by assumption)))⟩
set_option maxHeartbeats 1000000 in
theorem laws_eqReign (nm : ByteArray) (fr : Int) (to : Int) (w : World) : Calls Tryz.prog 269 #[.agg #[.string nm, .int .i64 fr, .int .i64 to], .agg #[.string nm, .int .i64 fr, .int .i64 to]] w (RetX (.bool true) w) := by
  have hs_nm := str_same nm
  go_enter Tryz.func269, Tryz.ntmps269
  go_wp2_with fail
  go_ret
  exact ⟨rfl, (by repeat (first | exact Ext.refl _ | assumption | refine Ext.alloc ?_ _ | refine Ext.drew ?_ | refine Ext.drewN ?_ _ | refine Ext.setCell ?_ (by first | (simp; done) | (simp; omega) | omega) _ | refine Ext.trans ?_ (by assumption)))⟩
set_option maxHeartbeats 1000000 in
theorem laws_szReign (nm : ByteArray) (fr : Int) (to : Int) (left : Int) (w : World) (hl : left ≤ 1048576) (h0 : 0 ≤ left) (hnm : nm.size ≤ 9223372036854775807) : Calls Tryz.prog 257 #[.agg #[.string nm, .int .i64 fr, .int .i64 to], .int .i64 left] w (SzPost left ((nm.size : Int) ≤ left) w) := by
  have W0 : IntKind.i64.wrap (left - (nm.size : Int)) = left - (nm.size : Int) := IntWalk.i64_in _ (by omega)
  by_cases c0 : left - (nm.size : Int) < 0
  case pos =>
    have d0 : decide (left - (nm.size : Int) < 0) = true := decide_eq_true c0
    go_enter Tryz.func257, Tryz.ntmps257
    go_wp2_with fail
    go_ret
    exact ⟨-1, rfl, (by repeat (first | exact Ext.refl _ | assumption | refine Ext.alloc ?_ _ | refine Ext.drew ?_ | refine Ext.drewN ?_ _ | refine Ext.setCell ?_ (by first | (simp; done) | (simp; omega) | omega) _ | refine Ext.trans ?_ (by assumption))), by omega, by omega, fun h => absurd h (by omega)⟩
  have d0 : decide (left - (nm.size : Int) < 0) = false := decide_eq_false c0
  go_enter Tryz.func257, Tryz.ntmps257
  go_wp2_with fail
  go_ret
  exact ⟨left - (nm.size : Int), rfl, (by repeat (first | exact Ext.refl _ | assumption | refine Ext.alloc ?_ _ | refine Ext.drew ?_ | refine Ext.drewN ?_ _ | refine Ext.setCell ?_ (by first | (simp; done) | (simp; omega) | omega) _ | refine Ext.trans ?_ (by assumption))), by omega, by omega, fun _ => by omega⟩
set_option maxRecDepth 100000 in
set_option maxHeartbeats 2000000 in
theorem laws_szReignS (v : Value) (l : List Nsp) (left : Int) (w : World) (hl : left ≤ 1048576) (h0 : 0 ≤ left) (h : Nsps w 0 w.heap.size v l) (hz : ∀ i, i < l.length → (nspAt l i).nm.size ≤ 9223372036854775807) : Calls Tryz.prog 176 #[v, .int .i64 left] w (SzPost left ((l.length : Int) ≤ left ∧ ∀ i, i < l.length → ((nspAt l i).nm.size : Int) ≤ left) w) := by
  obtain ⟨A, c, rfl, hn, hc⟩ := h.len
  have H := Lib.hid h
  have Hz := Lib.hid hz
  clear h hz
  have W0 : IntKind.i64.wrap (left - (l.length : Int)) = left - (l.length : Int) := IntWalk.i64_in _ (by omega)
  go_enter Tryz.func176, Tryz.ntmps176
  by_cases c0 : left - (l.length : Int) < 0
  case pos =>
    have d0 : decide (left - (l.length : Int) < 0) = true := decide_eq_true c0
    go_wp2_with fail
    go_ret
    exact ⟨-1, rfl, (by repeat (first | exact Ext.refl _ | assumption | refine Ext.alloc ?_ _ | refine Ext.drew ?_ | refine Ext.drewN ?_ _ | refine Ext.setCell ?_ (by first | (simp; done) | (simp; omega) | omega) _ | refine Ext.trans ?_ (by assumption))), by omega, by omega, fun h => absurd h (by omega)⟩
  have d0 : decide (left - (l.length : Int) < 0) = false := decide_eq_false c0
  go_wp2_with fail
  go_loopg [1, 5] l.length (fun q t i wr => ∃ (j : Nat) (r : Int), j + q = l.length ∧ i = .int .i64 j ∧ t = .int .i64 r ∧ 0 ≤ r ∧ r ≤ left - (l.length : Int) ∧ Ext w wr ∧ ∀ i, i < j → ((nspAt l i).nm.size : Int) ≤ left)
  case atStart => exact ⟨0, _, by omega, rfl, rfl, by omega, by omega, (by repeat (first | exact Ext.refl _ | assumption | refine Ext.alloc ?_ _ | refine Ext.drew ?_ | refine Ext.drewN ?_ _ | refine Ext.setCell ?_ (by first | (simp; done) | (simp; omega) | omega) _ | refine Ext.trans ?_ (by assumption))), fun i hi => absurd hi (by omega)⟩
  case round =>
    obtain ⟨j, r, hj, rfl, rfl, hr0, hr1, hx, hok⟩ := hrel
    have Hok := Lib.hid hok
    clear hok
    by_cases hlt : j < l.length
    · obtain ⟨b, off, rfl, _, hb, h1, h2, h3⟩ := (H.out.ext hx (Nat.le_refl _)).at_ hlt
      have hbr : b < wr.heap.size := Nat.lt_of_lt_of_le hb hx.size
      have hsz := Hz.out j hlt
      go_wp2_with fail
      refine Calls.mono (laws_szReign _ _ _ r _ (by omega) hr0 hsz) ?_
      rintro e w1 ⟨r2, rfl, hx1, hra, hrb, hrc⟩
      have Hrc := Lib.hid hrc
      clear hrc
      by_cases cj : r2 < 0
      · have dj : decide (r2 < 0) = true := decide_eq_true cj
        go_wp2_with fail
        go_ret
        exact ⟨-1, rfl, (by repeat (first | exact Ext.refl _ | assumption | refine Ext.alloc ?_ _ | refine Ext.drew ?_ | refine Ext.drewN ?_ _ | refine Ext.setCell ?_ (by first | (simp; done) | (simp; omega) | omega) _ | refine Ext.trans ?_ (by assumption))), by omega, by omega, fun h => absurd h (by omega)⟩
      · have dj : decide (r2 < 0) = false := decide_eq_false cj
        go_wp2_with fail
        go_roundg (l.length - (j + 1))
        case measure => omega
        case rel =>
          refine ⟨j + 1, r2, by omega, by go_num, rfl, by omega, by omega, (by repeat (first | exact Ext.refl _ | assumption | refine Ext.alloc ?_ _ | refine Ext.drew ?_ | refine Ext.drewN ?_ _ | refine Ext.setCell ?_ (by first | (simp; done) | (simp; omega) | omega) _ | refine Ext.trans ?_ (by assumption))), fun i hi => ?_⟩
          by_cases e : i = j
          · subst e
            have := Hrc.out (by omega)
            omega
          · exact Hok.out i (by omega)
    · obtain rfl : j = l.length := by omega
      go_wp2_with fail
      go_ret
      exact ⟨r, rfl, (by repeat (first | exact Ext.refl _ | assumption | refine Ext.alloc ?_ _ | refine Ext.drew ?_ | refine Ext.drewN ?_ _ | refine Ext.setCell ?_ (by first | (simp; done) | (simp; omega) | omega) _ | refine Ext.trans ?_ (by assumption))), by omega, by omega, fun _ => ⟨by omega, Hok.out⟩⟩
set_option maxRecDepth 100000 in
set_option maxHeartbeats 2000000 in
theorem laws_toReignS (v : Value) (l : List Nsp) (lo hi : Nat) (w : World) (h : Nsps w lo hi v l) (hh : hi ≤ w.heap.size) (hsm : l.length ≤ 1048576) :
    Calls Tryz.prog 187 #[v] w (NewRow 3 l.length (nspCell l) w) := by
  obtain ⟨A, c, rfl, hn, hc⟩ := h.len
  have H := Lib.hid h
  clear h
  go_enter Tryz.func187, Tryz.ntmps187
  go_wp2_with (at_make; refine wpList_make_blk _ rfl _ _ 24 rfl 276 3 32 Tryz.underlying24 (by kernel_rfl) l.length rfl rfl (by omega) (by unfold maxLen; omega) ?_; intro w0 f0 hx0 hb0)
  have Hb0 := Lib.hid hb0
  clear hb0
  go_wp2_with fail
  go_loopg [4] l.length (fun m i wr => ∃ (j : Nat) (f : Nat → Value), j + m = l.length ∧ i = .int .i64 j ∧ Ext w wr ∧ Blk wr w.heap.size (l.length * 3) f ∧ ∀ i, i < j * 3 → f i = nspCell l i)
  case atStart => exact ⟨0, f0, by omega, rfl, (by repeat (first | exact Ext.refl _ | assumption | refine Ext.alloc ?_ _ | refine Ext.drew ?_ | refine Ext.drewN ?_ _ | refine Ext.setCell ?_ (by first | (simp; done) | (simp; omega) | omega) _ | refine Ext.trans ?_ (by assumption))), Hb0.out, fun i hi => absurd hi (by omega)⟩
  case round =>
    obtain ⟨j, f, hj, rfl, hx, hbl, hok⟩ := hrel
    have Hok := Lib.hid hok
    clear hok
    have hbgr := hbl.1
    by_cases hlt : j < l.length
    · obtain ⟨b, off, rfl, _, hb, h1, h2, h3⟩ := (H.out.ext hx hh).at_ hlt
      have hbw : b < wr.heap.size := by have := hx.size; omega
      go_wp2_with fail
      refine (laws_toReign _ _ _ wr).mono ?_
      rintro e w1 ⟨rfl, hx1⟩
      have hc0 := (hbl.ext hx1).2 (j * 3) (by omega)
      have hc0a := hc0.1
      have hc0b := hc0.2
      have hc1 := (hbl.ext hx1).2 (j * 3 + 1) (by omega)
      have hc1a := hc1.1
      have hc1b := hc1.2
      have hc2 := (hbl.ext hx1).2 (j * 3 + 2) (by omega)
      have hc2a := hc2.1
      have hc2b := hc2.2
      have Hbl := Lib.hid (hbl.ext hx1)
      clear hbl
      have hbg := Hbl.out.1
      go_wp2_with fail
      go_roundg (l.length - (j + 1))
      case measure => omega
      case rel =>
        refine ⟨j + 1, _, by omega, by go_num, (by repeat (first | exact Ext.refl _ | assumption | refine Ext.alloc ?_ _ | refine Ext.drew ?_ | refine Ext.drewN ?_ _ | refine Ext.setCell ?_ (by first | (simp; done) | (simp; omega) | omega) _ | refine Ext.trans ?_ (by assumption))), (((Hbl.out.set (j * 3) (.string (nspAt l j).nm) (by omega)).set (j * 3 + 1) (.int .i64 (nspAt l j).fr) (by omega)).set (j * 3 + 2) (.int .i64 (nspAt l j).to) (by omega)), fun i hi => ?_⟩
        by_cases e2 : i = j * 3 + 2
        · subst e2; simp only [if_true]; exact (nspCell_2 l j).symm
        rw [if_neg e2]
        by_cases e1 : i = j * 3 + 1
        · subst e1; simp only [if_true]; exact (nspCell_1 l j).symm
        rw [if_neg e1]
        by_cases e0 : i = j * 3
        · subst e0; simp only [if_true]; exact (nspCell_0 l j).symm
        rw [if_neg e0]
        exact Hok.out i (by omega)
    · obtain rfl : j = l.length := by omega
      have Hbl := Lib.hid hbl
      clear hbl
      go_wp2_with fail
      go_ret
      exact ⟨_, w.heap.size, rfl, (by repeat (first | exact Ext.refl _ | assumption | refine Ext.alloc ?_ _ | refine Ext.drew ?_ | refine Ext.drewN ?_ _ | refine Ext.setCell ?_ (by first | (simp; done) | (simp; omega) | omega) _ | refine Ext.trans ?_ (by assumption))), fun _ => Nat.le_refl _, Hbl.out.own (Nat.le_refl _) (by unfold maxLen; omega) (Nat.le_refl _) Hok.out⟩
set_option maxHeartbeats 2000000 in
theorem laws_eqReignS (v v' : Value) (l : List Nsp) (w : World) (h : Nsps w 0 w.heap.size v l) (h' : Nsps w 0 w.heap.size v' l) :
    Calls Tryz.prog 196 #[v, v'] w (RetX (.bool true) w) := by
  obtain ⟨A, c, rfl, hn, hc⟩ := h.len
  obtain ⟨A', c', rfl, _, hc'⟩ := h'.len
  have H := Lib.hid h
  have H' := Lib.hid h'
  clear h h'
  go_enter Tryz.func196, Tryz.ntmps196
  go_wp2_with fail
  go_loopg [5] l.length (fun k i wr => ∃ j : Nat, j + k = l.length ∧ i = .int .i64 j ∧ Ext w wr)
  case atStart => exact ⟨0, by omega, rfl, (by repeat (first | exact Ext.refl _ | assumption | refine Ext.alloc ?_ _ | refine Ext.drew ?_ | refine Ext.drewN ?_ _ | refine Ext.setCell ?_ (by first | (simp; done) | (simp; omega) | omega) _ | refine Ext.trans ?_ (by assumption)))⟩
  case round =>
    obtain ⟨j, hj, rfl, hx⟩ := hrel
    by_cases hlt : j < l.length
    · obtain ⟨b, off, rfl, _, hb, h1, h2, h3⟩ := (H.out.ext hx (Nat.le_refl _)).at_ hlt
      obtain ⟨b', off', rfl, _, hb', h1', h2', h3'⟩ := (H'.out.ext hx (Nat.le_refl _)).at_ hlt
      have hbr : b < wr.heap.size := Nat.lt_of_lt_of_le hb hx.size
      have hbr' : b' < wr.heap.size := Nat.lt_of_lt_of_le hb' hx.size
      go_wp2_with fail
      (refine wp_region_onto prog_mixed (by kernel_rfl) ?_; (repeat (go_big_quiet_step ((go_at_call 269; exact onto_callX (laws_eqReign _ _ _ _))))); refine onto_end ?_; intro w1 hx1)
      go_wp2_with fail
      go_roundg (l.length - (j + 1))
      case measure => omega
      case rel => exact ⟨j + 1, by omega, by go_num, (by repeat (first | exact Ext.refl _ | assumption | refine Ext.alloc ?_ _ | refine Ext.drew ?_ | refine Ext.drewN ?_ _ | refine Ext.setCell ?_ (by first | (simp; done) | (simp; omega) | omega) _ | refine Ext.trans ?_ (by assumption)))⟩
    · obtain rfl : j = l.length := by omega
      go_wp2_with fail
      go_ret
      exact ⟨rfl, (by repeat (first | exact Ext.refl _ | assumption | refine Ext.alloc ?_ _ | refine Ext.drew ?_ | refine Ext.drewN ?_ _ | refine Ext.setCell ?_ (by first | (simp; done) | (simp; omega) | omega) _ | refine Ext.trans ?_ (by assumption)))⟩
set_option maxHeartbeats 1000000 in
theorem laws_toPerson (nm : ByteArray) (fr : Int) (to : Int) (w : World) : Calls Tryz.prog 264 #[.agg #[.string nm, .int .i64 fr, .int .i64 to]] w (RetX (.agg #[.string nm, .int .i64 fr, .int .i64 to]) w) := by
  go_enter Tryz.func264, Tryz.ntmps264
  go_wp2_with fail
  refine bodyPost_ret (v := .agg #[.string nm, .int .i64 fr, .int .i64 to]) (by simp [results, Tryz.results264, go_sem]) rfl ⟨rfl, (by repeat (first | exact Ext.refl _ | assumption | refine Ext.alloc ?_ _ | refine Ext.drew ?_ | refine Ext.drewN ?_ _ | refine Ext.setCell ?_ (by first | (simp; done) | (simp; omega) | omega) _ | refine Ext.trans ?_ (by assumption)))⟩
set_option maxHeartbeats 1000000 in
theorem laws_eqPerson (nm : ByteArray) (fr : Int) (to : Int) (w : World) : Calls Tryz.prog 270 #[.agg #[.string nm, .int .i64 fr, .int .i64 to], .agg #[.string nm, .int .i64 fr, .int .i64 to]] w (RetX (.bool true) w) := by
  have hs_nm := str_same nm
  go_enter Tryz.func270, Tryz.ntmps270
  go_wp2_with fail
  go_ret
  exact ⟨rfl, (by repeat (first | exact Ext.refl _ | assumption | refine Ext.alloc ?_ _ | refine Ext.drew ?_ | refine Ext.drewN ?_ _ | refine Ext.setCell ?_ (by first | (simp; done) | (simp; omega) | omega) _ | refine Ext.trans ?_ (by assumption)))⟩
set_option maxHeartbeats 1000000 in
theorem laws_szPerson (nm : ByteArray) (fr : Int) (to : Int) (left : Int) (w : World) (hl : left ≤ 1048576) (h0 : 0 ≤ left) (hnm : nm.size ≤ 9223372036854775807) : Calls Tryz.prog 258 #[.agg #[.string nm, .int .i64 fr, .int .i64 to], .int .i64 left] w (SzPost left ((nm.size : Int) ≤ left) w) := by
  have W0 : IntKind.i64.wrap (left - (nm.size : Int)) = left - (nm.size : Int) := IntWalk.i64_in _ (by omega)
  by_cases c0 : left - (nm.size : Int) < 0
  case pos =>
    have d0 : decide (left - (nm.size : Int) < 0) = true := decide_eq_true c0
    go_enter Tryz.func258, Tryz.ntmps258
    go_wp2_with fail
    go_ret
    exact ⟨-1, rfl, (by repeat (first | exact Ext.refl _ | assumption | refine Ext.alloc ?_ _ | refine Ext.drew ?_ | refine Ext.drewN ?_ _ | refine Ext.setCell ?_ (by first | (simp; done) | (simp; omega) | omega) _ | refine Ext.trans ?_ (by assumption))), by omega, by omega, fun h => absurd h (by omega)⟩
  have d0 : decide (left - (nm.size : Int) < 0) = false := decide_eq_false c0
  go_enter Tryz.func258, Tryz.ntmps258
  go_wp2_with fail
  go_ret
  exact ⟨left - (nm.size : Int), rfl, (by repeat (first | exact Ext.refl _ | assumption | refine Ext.alloc ?_ _ | refine Ext.drew ?_ | refine Ext.drewN ?_ _ | refine Ext.setCell ?_ (by first | (simp; done) | (simp; omega) | omega) _ | refine Ext.trans ?_ (by assumption))), by omega, by omega, fun _ => by omega⟩
set_option maxRecDepth 100000 in
set_option maxHeartbeats 2000000 in
theorem laws_szPersonS (v : Value) (l : List Nsp) (left : Int) (w : World) (hl : left ≤ 1048576) (h0 : 0 ≤ left) (h : Nsps w 0 w.heap.size v l) (hz : ∀ i, i < l.length → (nspAt l i).nm.size ≤ 9223372036854775807) : Calls Tryz.prog 177 #[v, .int .i64 left] w (SzPost left ((l.length : Int) ≤ left ∧ ∀ i, i < l.length → ((nspAt l i).nm.size : Int) ≤ left) w) := by
  obtain ⟨A, c, rfl, hn, hc⟩ := h.len
  have H := Lib.hid h
  have Hz := Lib.hid hz
  clear h hz
  have W0 : IntKind.i64.wrap (left - (l.length : Int)) = left - (l.length : Int) := IntWalk.i64_in _ (by omega)
  go_enter Tryz.func177, Tryz.ntmps177
  by_cases c0 : left - (l.length : Int) < 0
  case pos =>
    have d0 : decide (left - (l.length : Int) < 0) = true := decide_eq_true c0
    go_wp2_with fail
    go_ret
    exact ⟨-1, rfl, (by repeat (first | exact Ext.refl _ | assumption | refine Ext.alloc ?_ _ | refine Ext.drew ?_ | refine Ext.drewN ?_ _ | refine Ext.setCell ?_ (by first | (simp; done) | (simp; omega) | omega) _ | refine Ext.trans ?_ (by assumption))), by omega, by omega, fun h => absurd h (by omega)⟩
  have d0 : decide (left - (l.length : Int) < 0) = false := decide_eq_false c0
  go_wp2_with fail
  go_loopg [1, 5] l.length (fun q t i wr => ∃ (j : Nat) (r : Int), j + q = l.length ∧ i = .int .i64 j ∧ t = .int .i64 r ∧ 0 ≤ r ∧ r ≤ left - (l.length : Int) ∧ Ext w wr ∧ ∀ i, i < j → ((nspAt l i).nm.size : Int) ≤ left)
  case atStart => exact ⟨0, _, by omega, rfl, rfl, by omega, by omega, (by repeat (first | exact Ext.refl _ | assumption | refine Ext.alloc ?_ _ | refine Ext.drew ?_ | refine Ext.drewN ?_ _ | refine Ext.setCell ?_ (by first | (simp; done) | (simp; omega) | omega) _ | refine Ext.trans ?_ (by assumption))), fun i hi => absurd hi (by omega)⟩
  case round =>
    obtain ⟨j, r, hj, rfl, rfl, hr0, hr1, hx, hok⟩ := hrel
    have Hok := Lib.hid hok
    clear hok
    by_cases hlt : j < l.length
    · obtain ⟨b, off, rfl, _, hb, h1, h2, h3⟩ := (H.out.ext hx (Nat.le_refl _)).at_ hlt
      have hbr : b < wr.heap.size := Nat.lt_of_lt_of_le hb hx.size
      have hsz := Hz.out j hlt
      go_wp2_with fail
      refine Calls.mono (laws_szPerson _ _ _ r _ (by omega) hr0 hsz) ?_
      rintro e w1 ⟨r2, rfl, hx1, hra, hrb, hrc⟩
      have Hrc := Lib.hid hrc
      clear hrc
      by_cases cj : r2 < 0
      · have dj : decide (r2 < 0) = true := decide_eq_true cj
        go_wp2_with fail
        go_ret
        exact ⟨-1, rfl, (by repeat (first | exact Ext.refl _ | assumption | refine Ext.alloc ?_ _ | refine Ext.drew ?_ | refine Ext.drewN ?_ _ | refine Ext.setCell ?_ (by first | (simp; done) | (simp; omega) | omega) _ | refine Ext.trans ?_ (by assumption))), by omega, by omega, fun h => absurd h (by omega)⟩
      · have dj : decide (r2 < 0) = false := decide_eq_false cj
        go_wp2_with fail
        go_roundg (l.length - (j + 1))
        case measure => omega
        case rel =>
          refine ⟨j + 1, r2, by omega, by go_num, rfl, by omega, by omega, (by repeat (first | exact Ext.refl _ | assumption | refine Ext.alloc ?_ _ | refine Ext.drew ?_ | refine Ext.drewN ?_ _ | refine Ext.setCell ?_ (by first | (simp; done) | (simp; omega) | omega) _ | refine Ext.trans ?_ (by assumption))), fun i hi => ?_⟩
          by_cases e : i = j
          · subst e
            have := Hrc.out (by omega)
            omega
          · exact Hok.out i (by omega)
    · obtain rfl : j = l.length := by omega
      go_wp2_with fail
      go_ret
      exact ⟨r, rfl, (by repeat (first | exact Ext.refl _ | assumption | refine Ext.alloc ?_ _ | refine Ext.drew ?_ | refine Ext.drewN ?_ _ | refine Ext.setCell ?_ (by first | (simp; done) | (simp; omega) | omega) _ | refine Ext.trans ?_ (by assumption))), by omega, by omega, fun _ => ⟨by omega, Hok.out⟩⟩
set_option maxRecDepth 100000 in
set_option maxHeartbeats 2000000 in
theorem laws_toPersonS (v : Value) (l : List Nsp) (lo hi : Nat) (w : World) (h : Nsps w lo hi v l) (hh : hi ≤ w.heap.size) (hsm : l.length ≤ 1048576) :
    Calls Tryz.prog 188 #[v] w (NewRow 3 l.length (nspCell l) w) := by
  obtain ⟨A, c, rfl, hn, hc⟩ := h.len
  have H := Lib.hid h
  clear h
  go_enter Tryz.func188, Tryz.ntmps188
  go_wp2_with (at_make; refine wpList_make_blk _ rfl _ _ 27 rfl 196 3 32 Tryz.underlying27 (by kernel_rfl) l.length rfl rfl (by omega) (by unfold maxLen; omega) ?_; intro w0 f0 hx0 hb0)
  have Hb0 := Lib.hid hb0
  clear hb0
  go_wp2_with fail
  go_loopg [4] l.length (fun m i wr => ∃ (j : Nat) (f : Nat → Value), j + m = l.length ∧ i = .int .i64 j ∧ Ext w wr ∧ Blk wr w.heap.size (l.length * 3) f ∧ ∀ i, i < j * 3 → f i = nspCell l i)
  case atStart => exact ⟨0, f0, by omega, rfl, (by repeat (first | exact Ext.refl _ | assumption | refine Ext.alloc ?_ _ | refine Ext.drew ?_ | refine Ext.drewN ?_ _ | refine Ext.setCell ?_ (by first | (simp; done) | (simp; omega) | omega) _ | refine Ext.trans ?_ (by assumption))), Hb0.out, fun i hi => absurd hi (by omega)⟩
  case round =>
    obtain ⟨j, f, hj, rfl, hx, hbl, hok⟩ := hrel
    have Hok := Lib.hid hok
    clear hok
    have hbgr := hbl.1
    by_cases hlt : j < l.length
    · obtain ⟨b, off, rfl, _, hb, h1, h2, h3⟩ := (H.out.ext hx hh).at_ hlt
      have hbw : b < wr.heap.size := by have := hx.size; omega
      go_wp2_with fail
      refine (laws_toPerson _ _ _ wr).mono ?_
      rintro e w1 ⟨rfl, hx1⟩
      have hc0 := (hbl.ext hx1).2 (j * 3) (by omega)
      have hc0a := hc0.1
      have hc0b := hc0.2
      have hc1 := (hbl.ext hx1).2 (j * 3 + 1) (by omega)
      have hc1a := hc1.1
      have hc1b := hc1.2
      have hc2 := (hbl.ext hx1).2 (j * 3 + 2) (by omega)
      have hc2a := hc2.1
      have hc2b := hc2.2
      have Hbl := Lib.hid (hbl.ext hx1)
      clear hbl
      have hbg := Hbl.out.1
      go_wp2_with fail
      go_roundg (l.length - (j + 1))
      case measure => omega
      case rel =>
        refine ⟨j + 1, _, by omega, by go_num, (by repeat (first | exact Ext.refl _ | assumption | refine Ext.alloc ?_ _ | refine Ext.drew ?_ | refine Ext.drewN ?_ _ | refine Ext.setCell ?_ (by first | (simp; done) | (simp; omega) | omega) _ | refine Ext.trans ?_ (by assumption))), (((Hbl.out.set (j * 3) (.string (nspAt l j).nm) (by omega)).set (j * 3 + 1) (.int .i64 (nspAt l j).fr) (by omega)).set (j * 3 + 2) (.int .i64 (nspAt l j).to) (by omega)), fun i hi => ?_⟩
        by_cases e2 : i = j * 3 + 2
        · subst e2; simp only [if_true]; exact (nspCell_2 l j).symm
        rw [if_neg e2]
        by_cases e1 : i = j * 3 + 1
        · subst e1; simp only [if_true]; exact (nspCell_1 l j).symm
        rw [if_neg e1]
        by_cases e0 : i = j * 3
        · subst e0; simp only [if_true]; exact (nspCell_0 l j).symm
        rw [if_neg e0]
        exact Hok.out i (by omega)
    · obtain rfl : j = l.length := by omega
      have Hbl := Lib.hid hbl
      clear hbl
      go_wp2_with fail
      go_ret
      exact ⟨_, w.heap.size, rfl, (by repeat (first | exact Ext.refl _ | assumption | refine Ext.alloc ?_ _ | refine Ext.drew ?_ | refine Ext.drewN ?_ _ | refine Ext.setCell ?_ (by first | (simp; done) | (simp; omega) | omega) _ | refine Ext.trans ?_ (by assumption))), fun _ => Nat.le_refl _, Hbl.out.own (Nat.le_refl _) (by unfold maxLen; omega) (Nat.le_refl _) Hok.out⟩
set_option maxHeartbeats 2000000 in
theorem laws_eqPersonS (v v' : Value) (l : List Nsp) (w : World) (h : Nsps w 0 w.heap.size v l) (h' : Nsps w 0 w.heap.size v' l) :
    Calls Tryz.prog 197 #[v, v'] w (RetX (.bool true) w) := by
  obtain ⟨A, c, rfl, hn, hc⟩ := h.len
  obtain ⟨A', c', rfl, _, hc'⟩ := h'.len
  have H := Lib.hid h
  have H' := Lib.hid h'
  clear h h'
  go_enter Tryz.func197, Tryz.ntmps197
  go_wp2_with fail
  go_loopg [5] l.length (fun k i wr => ∃ j : Nat, j + k = l.length ∧ i = .int .i64 j ∧ Ext w wr)
  case atStart => exact ⟨0, by omega, rfl, (by repeat (first | exact Ext.refl _ | assumption | refine Ext.alloc ?_ _ | refine Ext.drew ?_ | refine Ext.drewN ?_ _ | refine Ext.setCell ?_ (by first | (simp; done) | (simp; omega) | omega) _ | refine Ext.trans ?_ (by assumption)))⟩
  case round =>
    obtain ⟨j, hj, rfl, hx⟩ := hrel
    by_cases hlt : j < l.length
    · obtain ⟨b, off, rfl, _, hb, h1, h2, h3⟩ := (H.out.ext hx (Nat.le_refl _)).at_ hlt
      obtain ⟨b', off', rfl, _, hb', h1', h2', h3'⟩ := (H'.out.ext hx (Nat.le_refl _)).at_ hlt
      have hbr : b < wr.heap.size := Nat.lt_of_lt_of_le hb hx.size
      have hbr' : b' < wr.heap.size := Nat.lt_of_lt_of_le hb' hx.size
      go_wp2_with fail
      (refine wp_region_onto prog_mixed (by kernel_rfl) ?_; (repeat (go_big_quiet_step ((go_at_call 270; exact onto_callX (laws_eqPerson _ _ _ _))))); refine onto_end ?_; intro w1 hx1)
      go_wp2_with fail
      go_roundg (l.length - (j + 1))
      case measure => omega
      case rel => exact ⟨j + 1, by omega, by go_num, (by repeat (first | exact Ext.refl _ | assumption | refine Ext.alloc ?_ _ | refine Ext.drew ?_ | refine Ext.drewN ?_ _ | refine Ext.setCell ?_ (by first | (simp; done) | (simp; omega) | omega) _ | refine Ext.trans ?_ (by assumption)))⟩
    · obtain rfl : j = l.length := by omega
      go_wp2_with fail
      go_ret
      exact ⟨rfl, (by repeat (first | exact Ext.refl _ | assumption | refine Ext.alloc ?_ _ | refine Ext.drew ?_ | refine Ext.drewN ?_ _ | refine Ext.setCell ?_ (by first | (simp; done) | (simp; omega) | omega) _ | refine Ext.trans ?_ (by assumption)))⟩
set_option maxHeartbeats 1000000 in
theorem laws_toTerm (of : ByteArray) (pe : ByteArray) (fr : Int) (to : Int) (w : World) : Calls Tryz.prog 265 #[.agg #[.string of, .string pe, .int .i64 fr, .int .i64 to]] w (RetX (.agg #[.string of, .string pe, .int .i64 fr, .int .i64 to]) w) := by
  go_enter Tryz.func265, Tryz.ntmps265
  go_wp2_with fail
  refine bodyPost_ret (v := .agg #[.string of, .string pe, .int .i64 fr, .int .i64 to]) (by simp [results, Tryz.results265, go_sem]) rfl ⟨rfl, (by repeat (first | exact Ext.refl _ | assumption | refine Ext.alloc ?_ _ | refine Ext.drew ?_ | refine Ext.drewN ?_ _ | refine Ext.setCell ?_ (by first | (simp; done) | (simp; omega) | omega) _ | refine Ext.trans ?_ (by assumption)))⟩
set_option maxHeartbeats 1000000 in
theorem laws_eqTerm (of : ByteArray) (pe : ByteArray) (fr : Int) (to : Int) (w : World) : Calls Tryz.prog 271 #[.agg #[.string of, .string pe, .int .i64 fr, .int .i64 to], .agg #[.string of, .string pe, .int .i64 fr, .int .i64 to]] w (RetX (.bool true) w) := by
  have hs_of := str_same of
  have hs_pe := str_same pe
  go_enter Tryz.func271, Tryz.ntmps271
  go_wp2_with fail
  go_ret
  exact ⟨rfl, (by repeat (first | exact Ext.refl _ | assumption | refine Ext.alloc ?_ _ | refine Ext.drew ?_ | refine Ext.drewN ?_ _ | refine Ext.setCell ?_ (by first | (simp; done) | (simp; omega) | omega) _ | refine Ext.trans ?_ (by assumption)))⟩
set_option maxHeartbeats 1000000 in
theorem laws_szTerm (of : ByteArray) (pe : ByteArray) (fr : Int) (to : Int) (left : Int) (w : World) (hl : left ≤ 1048576) (h0 : 0 ≤ left) (hof : of.size ≤ 9223372036854775807) (hpe : pe.size ≤ 9223372036854775807) : Calls Tryz.prog 259 #[.agg #[.string of, .string pe, .int .i64 fr, .int .i64 to], .int .i64 left] w (SzPost left ((of.size : Int) ≤ left ∧ (pe.size : Int) ≤ left) w) := by
  have W0 : IntKind.i64.wrap (left - (of.size : Int)) = left - (of.size : Int) := IntWalk.i64_in _ (by omega)
  by_cases c0 : left - (of.size : Int) < 0
  case pos =>
    have d0 : decide (left - (of.size : Int) < 0) = true := decide_eq_true c0
    go_enter Tryz.func259, Tryz.ntmps259
    go_wp2_with fail
    go_ret
    exact ⟨-1, rfl, (by repeat (first | exact Ext.refl _ | assumption | refine Ext.alloc ?_ _ | refine Ext.drew ?_ | refine Ext.drewN ?_ _ | refine Ext.setCell ?_ (by first | (simp; done) | (simp; omega) | omega) _ | refine Ext.trans ?_ (by assumption))), by omega, by omega, fun h => absurd h (by omega)⟩
  have d0 : decide (left - (of.size : Int) < 0) = false := decide_eq_false c0
  have W1 : IntKind.i64.wrap (left - (of.size : Int) - (pe.size : Int)) = left - (of.size : Int) - (pe.size : Int) := IntWalk.i64_in _ (by omega)
  by_cases c1 : left - (of.size : Int) - (pe.size : Int) < 0
  case pos =>
    have d1 : decide (left - (of.size : Int) - (pe.size : Int) < 0) = true := decide_eq_true c1
    go_enter Tryz.func259, Tryz.ntmps259
    go_wp2_with fail
    go_ret
    exact ⟨-1, rfl, (by repeat (first | exact Ext.refl _ | assumption | refine Ext.alloc ?_ _ | refine Ext.drew ?_ | refine Ext.drewN ?_ _ | refine Ext.setCell ?_ (by first | (simp; done) | (simp; omega) | omega) _ | refine Ext.trans ?_ (by assumption))), by omega, by omega, fun h => absurd h (by omega)⟩
  have d1 : decide (left - (of.size : Int) - (pe.size : Int) < 0) = false := decide_eq_false c1
  go_enter Tryz.func259, Tryz.ntmps259
  go_wp2_with fail
  go_ret
  exact ⟨left - (of.size : Int) - (pe.size : Int), rfl, (by repeat (first | exact Ext.refl _ | assumption | refine Ext.alloc ?_ _ | refine Ext.drew ?_ | refine Ext.drewN ?_ _ | refine Ext.setCell ?_ (by first | (simp; done) | (simp; omega) | omega) _ | refine Ext.trans ?_ (by assumption))), by omega, by omega, fun _ => by omega⟩
set_option maxRecDepth 100000 in
set_option maxHeartbeats 2000000 in
theorem laws_szTermS (v : Value) (l : List Trm) (left : Int) (w : World) (hl : left ≤ 1048576) (h0 : 0 ≤ left) (h : Trms w 0 w.heap.size v l) (hz : ∀ i, i < l.length → (trmAt l i).of.size ≤ 9223372036854775807 ∧ (trmAt l i).pe.size ≤ 9223372036854775807) : Calls Tryz.prog 178 #[v, .int .i64 left] w (SzPost left ((l.length : Int) ≤ left ∧ ∀ i, i < l.length → ((trmAt l i).of.size : Int) ≤ left ∧ ((trmAt l i).pe.size : Int) ≤ left) w) := by
  obtain ⟨A, c, rfl, hn, hc⟩ := h.len
  have H := Lib.hid h
  have Hz := Lib.hid hz
  clear h hz
  have W0 : IntKind.i64.wrap (left - (l.length : Int)) = left - (l.length : Int) := IntWalk.i64_in _ (by omega)
  go_enter Tryz.func178, Tryz.ntmps178
  by_cases c0 : left - (l.length : Int) < 0
  case pos =>
    have d0 : decide (left - (l.length : Int) < 0) = true := decide_eq_true c0
    go_wp2_with fail
    go_ret
    exact ⟨-1, rfl, (by repeat (first | exact Ext.refl _ | assumption | refine Ext.alloc ?_ _ | refine Ext.drew ?_ | refine Ext.drewN ?_ _ | refine Ext.setCell ?_ (by first | (simp; done) | (simp; omega) | omega) _ | refine Ext.trans ?_ (by assumption))), by omega, by omega, fun h => absurd h (by omega)⟩
  have d0 : decide (left - (l.length : Int) < 0) = false := decide_eq_false c0
  go_wp2_with fail
  go_loopg [1, 5] l.length (fun q t i wr => ∃ (j : Nat) (r : Int), j + q = l.length ∧ i = .int .i64 j ∧ t = .int .i64 r ∧ 0 ≤ r ∧ r ≤ left - (l.length : Int) ∧ Ext w wr ∧ ∀ i, i < j → ((trmAt l i).of.size : Int) ≤ left ∧ ((trmAt l i).pe.size : Int) ≤ left)
  case atStart => exact ⟨0, _, by omega, rfl, rfl, by omega, by omega, (by repeat (first | exact Ext.refl _ | assumption | refine Ext.alloc ?_ _ | refine Ext.drew ?_ | refine Ext.drewN ?_ _ | refine Ext.setCell ?_ (by first | (simp; done) | (simp; omega) | omega) _ | refine Ext.trans ?_ (by assumption))), fun i hi => absurd hi (by omega)⟩
  case round =>
    obtain ⟨j, r, hj, rfl, rfl, hr0, hr1, hx, hok⟩ := hrel
    have Hok := Lib.hid hok
    clear hok
    by_cases hlt : j < l.length
    · obtain ⟨b, off, rfl, _, hb, h1, h2, h3, h4⟩ := (H.out.ext hx (Nat.le_refl _)).at_ hlt
      have hbr : b < wr.heap.size := Nat.lt_of_lt_of_le hb hx.size
      have hsz := Hz.out j hlt
      go_wp2_with fail
      refine Calls.mono (laws_szTerm _ _ _ _ r _ (by omega) hr0 hsz.1 hsz.2) ?_
      rintro e w1 ⟨r2, rfl, hx1, hra, hrb, hrc⟩
      have Hrc := Lib.hid hrc
      clear hrc
      by_cases cj : r2 < 0
      · have dj : decide (r2 < 0) = true := decide_eq_true cj
        go_wp2_with fail
        go_ret
        exact ⟨-1, rfl, (by repeat (first | exact Ext.refl _ | assumption | refine Ext.alloc ?_ _ | refine Ext.drew ?_ | refine Ext.drewN ?_ _ | refine Ext.setCell ?_ (by first | (simp; done) | (simp; omega) | omega) _ | refine Ext.trans ?_ (by assumption))), by omega, by omega, fun h => absurd h (by omega)⟩
      · have dj : decide (r2 < 0) = false := decide_eq_false cj
        go_wp2_with fail
        go_roundg (l.length - (j + 1))
        case measure => omega
        case rel =>
          refine ⟨j + 1, r2, by omega, by go_num, rfl, by omega, by omega, (by repeat (first | exact Ext.refl _ | assumption | refine Ext.alloc ?_ _ | refine Ext.drew ?_ | refine Ext.drewN ?_ _ | refine Ext.setCell ?_ (by first | (simp; done) | (simp; omega) | omega) _ | refine Ext.trans ?_ (by assumption))), fun i hi => ?_⟩
          by_cases e : i = j
          · subst e
            have := Hrc.out (by omega)
            omega
          · exact Hok.out i (by omega)
    · obtain rfl : j = l.length := by omega
      go_wp2_with fail
      go_ret
      exact ⟨r, rfl, (by repeat (first | exact Ext.refl _ | assumption | refine Ext.alloc ?_ _ | refine Ext.drew ?_ | refine Ext.drewN ?_ _ | refine Ext.setCell ?_ (by first | (simp; done) | (simp; omega) | omega) _ | refine Ext.trans ?_ (by assumption))), by omega, by omega, fun _ => ⟨by omega, Hok.out⟩⟩
set_option maxRecDepth 100000 in
set_option maxHeartbeats 2000000 in
theorem laws_toTermS (v : Value) (l : List Trm) (lo hi : Nat) (w : World) (h : Trms w lo hi v l) (hh : hi ≤ w.heap.size) (hsm : l.length ≤ 1048576) :
    Calls Tryz.prog 189 #[v] w (NewRow 4 l.length (trmCell l) w) := by
  obtain ⟨A, c, rfl, hn, hc⟩ := h.len
  have H := Lib.hid h
  clear h
  go_enter Tryz.func189, Tryz.ntmps189
  go_wp2_with (at_make; refine wpList_make_blk _ rfl _ _ 28 rfl 198 4 48 Tryz.underlying28 (by kernel_rfl) l.length rfl rfl (by omega) (by unfold maxLen; omega) ?_; intro w0 f0 hx0 hb0)
  have Hb0 := Lib.hid hb0
  clear hb0
  go_wp2_with fail
  go_loopg [4] l.length (fun m i wr => ∃ (j : Nat) (f : Nat → Value), j + m = l.length ∧ i = .int .i64 j ∧ Ext w wr ∧ Blk wr w.heap.size (l.length * 4) f ∧ ∀ i, i < j * 4 → f i = trmCell l i)
  case atStart => exact ⟨0, f0, by omega, rfl, (by repeat (first | exact Ext.refl _ | assumption | refine Ext.alloc ?_ _ | refine Ext.drew ?_ | refine Ext.drewN ?_ _ | refine Ext.setCell ?_ (by first | (simp; done) | (simp; omega) | omega) _ | refine Ext.trans ?_ (by assumption))), Hb0.out, fun i hi => absurd hi (by omega)⟩
  case round =>
    obtain ⟨j, f, hj, rfl, hx, hbl, hok⟩ := hrel
    have Hok := Lib.hid hok
    clear hok
    have hbgr := hbl.1
    by_cases hlt : j < l.length
    · obtain ⟨b, off, rfl, _, hb, h1, h2, h3, h4⟩ := (H.out.ext hx hh).at_ hlt
      have hbw : b < wr.heap.size := by have := hx.size; omega
      go_wp2_with fail
      refine (laws_toTerm _ _ _ _ wr).mono ?_
      rintro e w1 ⟨rfl, hx1⟩
      have hc0 := (hbl.ext hx1).2 (j * 4) (by omega)
      have hc0a := hc0.1
      have hc0b := hc0.2
      have hc1 := (hbl.ext hx1).2 (j * 4 + 1) (by omega)
      have hc1a := hc1.1
      have hc1b := hc1.2
      have hc2 := (hbl.ext hx1).2 (j * 4 + 2) (by omega)
      have hc2a := hc2.1
      have hc2b := hc2.2
      have hc3 := (hbl.ext hx1).2 (j * 4 + 3) (by omega)
      have hc3a := hc3.1
      have hc3b := hc3.2
      have Hbl := Lib.hid (hbl.ext hx1)
      clear hbl
      have hbg := Hbl.out.1
      go_wp2_with fail
      go_roundg (l.length - (j + 1))
      case measure => omega
      case rel =>
        refine ⟨j + 1, _, by omega, by go_num, (by repeat (first | exact Ext.refl _ | assumption | refine Ext.alloc ?_ _ | refine Ext.drew ?_ | refine Ext.drewN ?_ _ | refine Ext.setCell ?_ (by first | (simp; done) | (simp; omega) | omega) _ | refine Ext.trans ?_ (by assumption))), ((((Hbl.out.set (j * 4) (.string (trmAt l j).of) (by omega)).set (j * 4 + 1) (.string (trmAt l j).pe) (by omega)).set (j * 4 + 2) (.int .i64 (trmAt l j).fr) (by omega)).set (j * 4 + 3) (.int .i64 (trmAt l j).to) (by omega)), fun i hi => ?_⟩
        by_cases e3 : i = j * 4 + 3
        · subst e3; simp only [if_true]; exact (trmCell_3 l j).symm
        rw [if_neg e3]
        by_cases e2 : i = j * 4 + 2
        · subst e2; simp only [if_true]; exact (trmCell_2 l j).symm
        rw [if_neg e2]
        by_cases e1 : i = j * 4 + 1
        · subst e1; simp only [if_true]; exact (trmCell_1 l j).symm
        rw [if_neg e1]
        by_cases e0 : i = j * 4
        · subst e0; simp only [if_true]; exact (trmCell_0 l j).symm
        rw [if_neg e0]
        exact Hok.out i (by omega)
    · obtain rfl : j = l.length := by omega
      have Hbl := Lib.hid hbl
      clear hbl
      go_wp2_with fail
      go_ret
      exact ⟨_, w.heap.size, rfl, (by repeat (first | exact Ext.refl _ | assumption | refine Ext.alloc ?_ _ | refine Ext.drew ?_ | refine Ext.drewN ?_ _ | refine Ext.setCell ?_ (by first | (simp; done) | (simp; omega) | omega) _ | refine Ext.trans ?_ (by assumption))), fun _ => Nat.le_refl _, Hbl.out.own (Nat.le_refl _) (by unfold maxLen; omega) (Nat.le_refl _) Hok.out⟩
set_option maxHeartbeats 2000000 in
theorem laws_eqTermS (v v' : Value) (l : List Trm) (w : World) (h : Trms w 0 w.heap.size v l) (h' : Trms w 0 w.heap.size v' l) :
    Calls Tryz.prog 198 #[v, v'] w (RetX (.bool true) w) := by
  obtain ⟨A, c, rfl, hn, hc⟩ := h.len
  obtain ⟨A', c', rfl, _, hc'⟩ := h'.len
  have H := Lib.hid h
  have H' := Lib.hid h'
  clear h h'
  go_enter Tryz.func198, Tryz.ntmps198
  go_wp2_with fail
  go_loopg [5] l.length (fun k i wr => ∃ j : Nat, j + k = l.length ∧ i = .int .i64 j ∧ Ext w wr)
  case atStart => exact ⟨0, by omega, rfl, (by repeat (first | exact Ext.refl _ | assumption | refine Ext.alloc ?_ _ | refine Ext.drew ?_ | refine Ext.drewN ?_ _ | refine Ext.setCell ?_ (by first | (simp; done) | (simp; omega) | omega) _ | refine Ext.trans ?_ (by assumption)))⟩
  case round =>
    obtain ⟨j, hj, rfl, hx⟩ := hrel
    by_cases hlt : j < l.length
    · obtain ⟨b, off, rfl, _, hb, h1, h2, h3, h4⟩ := (H.out.ext hx (Nat.le_refl _)).at_ hlt
      obtain ⟨b', off', rfl, _, hb', h1', h2', h3', h4'⟩ := (H'.out.ext hx (Nat.le_refl _)).at_ hlt
      have hbr : b < wr.heap.size := Nat.lt_of_lt_of_le hb hx.size
      have hbr' : b' < wr.heap.size := Nat.lt_of_lt_of_le hb' hx.size
      go_wp2_with fail
      (refine wp_region_onto prog_mixed (by kernel_rfl) ?_; (repeat (go_big_quiet_step ((go_at_call 271; exact onto_callX (laws_eqTerm _ _ _ _ _))))); refine onto_end ?_; intro w1 hx1)
      go_wp2_with fail
      go_roundg (l.length - (j + 1))
      case measure => omega
      case rel => exact ⟨j + 1, by omega, by go_num, (by repeat (first | exact Ext.refl _ | assumption | refine Ext.alloc ?_ _ | refine Ext.drew ?_ | refine Ext.drewN ?_ _ | refine Ext.setCell ?_ (by first | (simp; done) | (simp; omega) | omega) _ | refine Ext.trans ?_ (by assumption)))⟩
    · obtain rfl : j = l.length := by omega
      go_wp2_with fail
      go_ret
      exact ⟨rfl, (by repeat (first | exact Ext.refl _ | assumption | refine Ext.alloc ?_ _ | refine Ext.drew ?_ | refine Ext.drewN ?_ _ | refine Ext.setCell ?_ (by first | (simp; done) | (simp; omega) | omega) _ | refine Ext.trans ?_ (by assumption)))⟩
set_option maxHeartbeats 1000000 in
theorem laws_toWay (a : Int) (b : Int) (d : Int) (w : World) : Calls Tryz.prog 266 #[.agg #[.int .i64 a, .int .i64 b, .int .i64 d]] w (RetX (.agg #[.int .i64 a, .int .i64 b, .int .i64 d]) w) := by
  go_enter Tryz.func266, Tryz.ntmps266
  go_wp2_with fail
  refine bodyPost_ret (v := .agg #[.int .i64 a, .int .i64 b, .int .i64 d]) (by simp [results, Tryz.results266, go_sem]) rfl ⟨rfl, (by repeat (first | exact Ext.refl _ | assumption | refine Ext.alloc ?_ _ | refine Ext.drew ?_ | refine Ext.drewN ?_ _ | refine Ext.setCell ?_ (by first | (simp; done) | (simp; omega) | omega) _ | refine Ext.trans ?_ (by assumption)))⟩
set_option maxHeartbeats 1000000 in
theorem laws_eqWay (a : Int) (b : Int) (d : Int) (w : World) : Calls Tryz.prog 272 #[.agg #[.int .i64 a, .int .i64 b, .int .i64 d], .agg #[.int .i64 a, .int .i64 b, .int .i64 d]] w (RetX (.bool true) w) := by
  go_enter Tryz.func272, Tryz.ntmps272
  go_wp2_with fail
  go_ret
  exact ⟨rfl, (by repeat (first | exact Ext.refl _ | assumption | refine Ext.alloc ?_ _ | refine Ext.drew ?_ | refine Ext.drewN ?_ _ | refine Ext.setCell ?_ (by first | (simp; done) | (simp; omega) | omega) _ | refine Ext.trans ?_ (by assumption)))⟩
set_option maxHeartbeats 400000 in
theorem laws_szWayS (v : Value) (l : List Wy) (left : Int) (w : World) (hl : left ≤ 1048576) (h0 : 0 ≤ left) (h : Wys w 0 w.heap.size v l) :
    Calls Tryz.prog 180 #[v, .int .i64 left] w (SzPost left ((l.length : Int) ≤ left) w) := by
  obtain ⟨A, c, rfl, hn, hc⟩ := h.len
  clear h
  go_enter Tryz.func180, Tryz.ntmps180
  go_wp2_with fail
  · go_ret
    exact ⟨-1, rfl, Ext.refl _, by omega, by omega, fun h => absurd h (by omega)⟩
  · go_ret
    exact ⟨left - (l.length : Int), rfl, Ext.refl _, by omega, by omega, fun _ => by omega⟩
set_option maxRecDepth 100000 in
set_option maxHeartbeats 2000000 in
theorem laws_toWayS (v : Value) (l : List Wy) (lo hi : Nat) (w : World) (h : Wys w lo hi v l) (hh : hi ≤ w.heap.size) (hsm : l.length ≤ 1048576) :
    Calls Tryz.prog 191 #[v] w (NewRow 3 l.length (wyCell l) w) := by
  obtain ⟨A, c, rfl, hn, hc⟩ := h.len
  have H := Lib.hid h
  clear h
  go_enter Tryz.func191, Tryz.ntmps191
  go_wp2_with (at_make; refine wpList_make_blk _ rfl _ _ 32 rfl 280 3 24 Tryz.underlying32 (by kernel_rfl) l.length rfl rfl (by omega) (by unfold maxLen; omega) ?_; intro w0 f0 hx0 hb0)
  have Hb0 := Lib.hid hb0
  clear hb0
  go_wp2_with fail
  go_loopg [4] l.length (fun m i wr => ∃ (j : Nat) (f : Nat → Value), j + m = l.length ∧ i = .int .i64 j ∧ Ext w wr ∧ Blk wr w.heap.size (l.length * 3) f ∧ ∀ i, i < j * 3 → f i = wyCell l i)
  case atStart => exact ⟨0, f0, by omega, rfl, (by repeat (first | exact Ext.refl _ | assumption | refine Ext.alloc ?_ _ | refine Ext.drew ?_ | refine Ext.drewN ?_ _ | refine Ext.setCell ?_ (by first | (simp; done) | (simp; omega) | omega) _ | refine Ext.trans ?_ (by assumption))), Hb0.out, fun i hi => absurd hi (by omega)⟩
  case round =>
    obtain ⟨j, f, hj, rfl, hx, hbl, hok⟩ := hrel
    have Hok := Lib.hid hok
    clear hok
    have hbgr := hbl.1
    by_cases hlt : j < l.length
    · obtain ⟨b, off, rfl, _, hb, h1, h2, h3⟩ := (H.out.ext hx hh).at_ hlt
      have hbw : b < wr.heap.size := by have := hx.size; omega
      go_wp2_with fail
      refine (laws_toWay _ _ _ wr).mono ?_
      rintro e w1 ⟨rfl, hx1⟩
      have hc0 := (hbl.ext hx1).2 (j * 3) (by omega)
      have hc0a := hc0.1
      have hc0b := hc0.2
      have hc1 := (hbl.ext hx1).2 (j * 3 + 1) (by omega)
      have hc1a := hc1.1
      have hc1b := hc1.2
      have hc2 := (hbl.ext hx1).2 (j * 3 + 2) (by omega)
      have hc2a := hc2.1
      have hc2b := hc2.2
      have Hbl := Lib.hid (hbl.ext hx1)
      clear hbl
      have hbg := Hbl.out.1
      go_wp2_with fail
      go_roundg (l.length - (j + 1))
      case measure => omega
      case rel =>
        refine ⟨j + 1, _, by omega, by go_num, (by repeat (first | exact Ext.refl _ | assumption | refine Ext.alloc ?_ _ | refine Ext.drew ?_ | refine Ext.drewN ?_ _ | refine Ext.setCell ?_ (by first | (simp; done) | (simp; omega) | omega) _ | refine Ext.trans ?_ (by assumption))), (((Hbl.out.set (j * 3) (.int .i64 (wyAt l j).a) (by omega)).set (j * 3 + 1) (.int .i64 (wyAt l j).b) (by omega)).set (j * 3 + 2) (.int .i64 (wyAt l j).d) (by omega)), fun i hi => ?_⟩
        by_cases e2 : i = j * 3 + 2
        · subst e2; simp only [if_true]; exact (wyCell_2 l j).symm
        rw [if_neg e2]
        by_cases e1 : i = j * 3 + 1
        · subst e1; simp only [if_true]; exact (wyCell_1 l j).symm
        rw [if_neg e1]
        by_cases e0 : i = j * 3
        · subst e0; simp only [if_true]; exact (wyCell_0 l j).symm
        rw [if_neg e0]
        exact Hok.out i (by omega)
    · obtain rfl : j = l.length := by omega
      have Hbl := Lib.hid hbl
      clear hbl
      go_wp2_with fail
      go_ret
      exact ⟨_, w.heap.size, rfl, (by repeat (first | exact Ext.refl _ | assumption | refine Ext.alloc ?_ _ | refine Ext.drew ?_ | refine Ext.drewN ?_ _ | refine Ext.setCell ?_ (by first | (simp; done) | (simp; omega) | omega) _ | refine Ext.trans ?_ (by assumption))), fun _ => Nat.le_refl _, Hbl.out.own (Nat.le_refl _) (by unfold maxLen; omega) (Nat.le_refl _) Hok.out⟩
set_option maxHeartbeats 2000000 in
theorem laws_eqWayS (v v' : Value) (l : List Wy) (w : World) (h : Wys w 0 w.heap.size v l) (h' : Wys w 0 w.heap.size v' l) :
    Calls Tryz.prog 200 #[v, v'] w (RetX (.bool true) w) := by
  obtain ⟨A, c, rfl, hn, hc⟩ := h.len
  obtain ⟨A', c', rfl, _, hc'⟩ := h'.len
  have H := Lib.hid h
  have H' := Lib.hid h'
  clear h h'
  go_enter Tryz.func200, Tryz.ntmps200
  go_wp2_with fail
  go_loopg [5] l.length (fun k i wr => ∃ j : Nat, j + k = l.length ∧ i = .int .i64 j ∧ Ext w wr)
  case atStart => exact ⟨0, by omega, rfl, (by repeat (first | exact Ext.refl _ | assumption | refine Ext.alloc ?_ _ | refine Ext.drew ?_ | refine Ext.drewN ?_ _ | refine Ext.setCell ?_ (by first | (simp; done) | (simp; omega) | omega) _ | refine Ext.trans ?_ (by assumption)))⟩
  case round =>
    obtain ⟨j, hj, rfl, hx⟩ := hrel
    by_cases hlt : j < l.length
    · obtain ⟨b, off, rfl, _, hb, h1, h2, h3⟩ := (H.out.ext hx (Nat.le_refl _)).at_ hlt
      obtain ⟨b', off', rfl, _, hb', h1', h2', h3'⟩ := (H'.out.ext hx (Nat.le_refl _)).at_ hlt
      have hbr : b < wr.heap.size := Nat.lt_of_lt_of_le hb hx.size
      have hbr' : b' < wr.heap.size := Nat.lt_of_lt_of_le hb' hx.size
      go_wp2_with fail
      (refine wp_region_onto prog_mixed (by kernel_rfl) ?_; (repeat (go_big_quiet_step ((go_at_call 272; exact onto_callX (laws_eqWay _ _ _ _))))); refine onto_end ?_; intro w1 hx1)
      go_wp2_with fail
      go_roundg (l.length - (j + 1))
      case measure => omega
      case rel => exact ⟨j + 1, by omega, by go_num, (by repeat (first | exact Ext.refl _ | assumption | refine Ext.alloc ?_ _ | refine Ext.drew ?_ | refine Ext.drewN ?_ _ | refine Ext.setCell ?_ (by first | (simp; done) | (simp; omega) | omega) _ | refine Ext.trans ?_ (by assumption)))⟩
    · obtain rfl : j = l.length := by omega
      go_wp2_with fail
      go_ret
      exact ⟨rfl, (by repeat (first | exact Ext.refl _ | assumption | refine Ext.alloc ?_ _ | refine Ext.drew ?_ | refine Ext.drewN ?_ _ | refine Ext.setCell ?_ (by first | (simp; done) | (simp; omega) | omega) _ | refine Ext.trans ?_ (by assumption)))⟩
set_option maxHeartbeats 1000000 in
theorem laws_toStay (a : Int) (b : Int) (d : Int) (w : World) : Calls Tryz.prog 192 #[.agg #[.int .i64 a, .int .i64 b, .int .i64 d]] w (RetX (.agg #[.int .i64 a, .int .i64 b, .int .i64 d]) w) := by
  go_enter Tryz.func192, Tryz.ntmps192
  go_wp2_with fail
  refine bodyPost_ret (v := .agg #[.int .i64 a, .int .i64 b, .int .i64 d]) (by simp [results, Tryz.results192, go_sem]) rfl ⟨rfl, (by repeat (first | exact Ext.refl _ | assumption | refine Ext.alloc ?_ _ | refine Ext.drew ?_ | refine Ext.drewN ?_ _ | refine Ext.setCell ?_ (by first | (simp; done) | (simp; omega) | omega) _ | refine Ext.trans ?_ (by assumption)))⟩
set_option maxHeartbeats 1000000 in
theorem laws_eqStay (a : Int) (b : Int) (d : Int) (w : World) : Calls Tryz.prog 201 #[.agg #[.int .i64 a, .int .i64 b, .int .i64 d], .agg #[.int .i64 a, .int .i64 b, .int .i64 d]] w (RetX (.bool true) w) := by
  go_enter Tryz.func201, Tryz.ntmps201
  go_wp2_with fail
  go_ret
  exact ⟨rfl, (by repeat (first | exact Ext.refl _ | assumption | refine Ext.alloc ?_ _ | refine Ext.drew ?_ | refine Ext.drewN ?_ _ | refine Ext.setCell ?_ (by first | (simp; done) | (simp; omega) | omega) _ | refine Ext.trans ?_ (by assumption)))⟩
set_option maxHeartbeats 400000 in
theorem laws_szStayS (v : Value) (l : List Wy) (left : Int) (w : World) (hl : left ≤ 1048576) (h0 : 0 ≤ left) (h : Wys w 0 w.heap.size v l) :
    Calls Tryz.prog 89 #[v, .int .i64 left] w (SzPost left ((l.length : Int) ≤ left) w) := by
  obtain ⟨A, c, rfl, hn, hc⟩ := h.len
  clear h
  go_enter Tryz.func89, Tryz.ntmps89
  go_wp2_with fail
  · go_ret
    exact ⟨-1, rfl, Ext.refl _, by omega, by omega, fun h => absurd h (by omega)⟩
  · go_ret
    exact ⟨left - (l.length : Int), rfl, Ext.refl _, by omega, by omega, fun _ => by omega⟩
set_option maxRecDepth 100000 in
set_option maxHeartbeats 2000000 in
theorem laws_toStayS (v : Value) (l : List Wy) (lo hi : Nat) (w : World) (h : Wys w lo hi v l) (hh : hi ≤ w.heap.size) (hsm : l.length ≤ 1048576) :
    Calls Tryz.prog 96 #[v] w (NewRow 3 l.length (wyCell l) w) := by
  obtain ⟨A, c, rfl, hn, hc⟩ := h.len
  have H := Lib.hid h
  clear h
  go_enter Tryz.func96, Tryz.ntmps96
  go_wp2_with (at_make; refine wpList_make_blk _ rfl _ _ 35 rfl 208 3 24 Tryz.underlying35 (by kernel_rfl) l.length rfl rfl (by omega) (by unfold maxLen; omega) ?_; intro w0 f0 hx0 hb0)
  have Hb0 := Lib.hid hb0
  clear hb0
  go_wp2_with fail
  go_loopg [4] l.length (fun m i wr => ∃ (j : Nat) (f : Nat → Value), j + m = l.length ∧ i = .int .i64 j ∧ Ext w wr ∧ Blk wr w.heap.size (l.length * 3) f ∧ ∀ i, i < j * 3 → f i = wyCell l i)
  case atStart => exact ⟨0, f0, by omega, rfl, (by repeat (first | exact Ext.refl _ | assumption | refine Ext.alloc ?_ _ | refine Ext.drew ?_ | refine Ext.drewN ?_ _ | refine Ext.setCell ?_ (by first | (simp; done) | (simp; omega) | omega) _ | refine Ext.trans ?_ (by assumption))), Hb0.out, fun i hi => absurd hi (by omega)⟩
  case round =>
    obtain ⟨j, f, hj, rfl, hx, hbl, hok⟩ := hrel
    have Hok := Lib.hid hok
    clear hok
    have hbgr := hbl.1
    by_cases hlt : j < l.length
    · obtain ⟨b, off, rfl, _, hb, h1, h2, h3⟩ := (H.out.ext hx hh).at_ hlt
      have hbw : b < wr.heap.size := by have := hx.size; omega
      go_wp2_with fail
      refine (laws_toStay _ _ _ wr).mono ?_
      rintro e w1 ⟨rfl, hx1⟩
      have hc0 := (hbl.ext hx1).2 (j * 3) (by omega)
      have hc0a := hc0.1
      have hc0b := hc0.2
      have hc1 := (hbl.ext hx1).2 (j * 3 + 1) (by omega)
      have hc1a := hc1.1
      have hc1b := hc1.2
      have hc2 := (hbl.ext hx1).2 (j * 3 + 2) (by omega)
      have hc2a := hc2.1
      have hc2b := hc2.2
      have Hbl := Lib.hid (hbl.ext hx1)
      clear hbl
      have hbg := Hbl.out.1
      go_wp2_with fail
      go_roundg (l.length - (j + 1))
      case measure => omega
      case rel =>
        refine ⟨j + 1, _, by omega, by go_num, (by repeat (first | exact Ext.refl _ | assumption | refine Ext.alloc ?_ _ | refine Ext.drew ?_ | refine Ext.drewN ?_ _ | refine Ext.setCell ?_ (by first | (simp; done) | (simp; omega) | omega) _ | refine Ext.trans ?_ (by assumption))), (((Hbl.out.set (j * 3) (.int .i64 (wyAt l j).a) (by omega)).set (j * 3 + 1) (.int .i64 (wyAt l j).b) (by omega)).set (j * 3 + 2) (.int .i64 (wyAt l j).d) (by omega)), fun i hi => ?_⟩
        by_cases e2 : i = j * 3 + 2
        · subst e2; simp only [if_true]; exact (wyCell_2 l j).symm
        rw [if_neg e2]
        by_cases e1 : i = j * 3 + 1
        · subst e1; simp only [if_true]; exact (wyCell_1 l j).symm
        rw [if_neg e1]
        by_cases e0 : i = j * 3
        · subst e0; simp only [if_true]; exact (wyCell_0 l j).symm
        rw [if_neg e0]
        exact Hok.out i (by omega)
    · obtain rfl : j = l.length := by omega
      have Hbl := Lib.hid hbl
      clear hbl
      go_wp2_with fail
      go_ret
      exact ⟨_, w.heap.size, rfl, (by repeat (first | exact Ext.refl _ | assumption | refine Ext.alloc ?_ _ | refine Ext.drew ?_ | refine Ext.drewN ?_ _ | refine Ext.setCell ?_ (by first | (simp; done) | (simp; omega) | omega) _ | refine Ext.trans ?_ (by assumption))), fun _ => Nat.le_refl _, Hbl.out.own (Nat.le_refl _) (by unfold maxLen; omega) (Nat.le_refl _) Hok.out⟩
set_option maxHeartbeats 2000000 in
theorem laws_eqStayS (v v' : Value) (l : List Wy) (w : World) (h : Wys w 0 w.heap.size v l) (h' : Wys w 0 w.heap.size v' l) :
    Calls Tryz.prog 102 #[v, v'] w (RetX (.bool true) w) := by
  obtain ⟨A, c, rfl, hn, hc⟩ := h.len
  obtain ⟨A', c', rfl, _, hc'⟩ := h'.len
  have H := Lib.hid h
  have H' := Lib.hid h'
  clear h h'
  go_enter Tryz.func102, Tryz.ntmps102
  go_wp2_with fail
  go_loopg [5] l.length (fun k i wr => ∃ j : Nat, j + k = l.length ∧ i = .int .i64 j ∧ Ext w wr)
  case atStart => exact ⟨0, by omega, rfl, (by repeat (first | exact Ext.refl _ | assumption | refine Ext.alloc ?_ _ | refine Ext.drew ?_ | refine Ext.drewN ?_ _ | refine Ext.setCell ?_ (by first | (simp; done) | (simp; omega) | omega) _ | refine Ext.trans ?_ (by assumption)))⟩
  case round =>
    obtain ⟨j, hj, rfl, hx⟩ := hrel
    by_cases hlt : j < l.length
    · obtain ⟨b, off, rfl, _, hb, h1, h2, h3⟩ := (H.out.ext hx (Nat.le_refl _)).at_ hlt
      obtain ⟨b', off', rfl, _, hb', h1', h2', h3'⟩ := (H'.out.ext hx (Nat.le_refl _)).at_ hlt
      have hbr : b < wr.heap.size := Nat.lt_of_lt_of_le hb hx.size
      have hbr' : b' < wr.heap.size := Nat.lt_of_lt_of_le hb' hx.size
      go_wp2_with fail
      (refine wp_region_onto prog_mixed (by kernel_rfl) ?_; (repeat (go_big_quiet_step ((go_at_call 201; exact onto_callX (laws_eqStay _ _ _ _))))); refine onto_end ?_; intro w1 hx1)
      go_wp2_with fail
      go_roundg (l.length - (j + 1))
      case measure => omega
      case rel => exact ⟨j + 1, by omega, by go_num, (by repeat (first | exact Ext.refl _ | assumption | refine Ext.alloc ?_ _ | refine Ext.drew ?_ | refine Ext.drewN ?_ _ | refine Ext.setCell ?_ (by first | (simp; done) | (simp; omega) | omega) _ | refine Ext.trans ?_ (by assumption)))⟩
    · obtain rfl : j = l.length := by omega
      go_wp2_with fail
      go_ret
      exact ⟨rfl, (by repeat (first | exact Ext.refl _ | assumption | refine Ext.alloc ?_ _ | refine Ext.drew ?_ | refine Ext.drewN ?_ _ | refine Ext.setCell ?_ (by first | (simp; done) | (simp; omega) | omega) _ | refine Ext.trans ?_ (by assumption)))⟩
set_option maxRecDepth 100000 in
set_option maxHeartbeats 2000000 in
theorem laws_szStringS (v : Value) (l : List ByteArray) (left : Int) (w : World) (hl : left ≤ 1048576) (h0 : 0 ≤ left) (h : Strs w 0 w.heap.size v l) (hz : ∀ i, i < l.length → (strAt l i).size ≤ 9223372036854775807) : Calls Tryz.prog 179 #[v, .int .i64 left] w (SzPost left ((l.length : Int) ≤ left ∧ ∀ i, i < l.length → ((strAt l i).size : Int) ≤ left) w) := by
  obtain ⟨A, c, rfl, hn, hc⟩ := h.len
  have H := Lib.hid h
  have Hz := Lib.hid hz
  clear h hz
  have W0 : IntKind.i64.wrap (left - (l.length : Int)) = left - (l.length : Int) := IntWalk.i64_in _ (by omega)
  go_enter Tryz.func179, Tryz.ntmps179
  by_cases c0 : left - (l.length : Int) < 0
  case pos =>
    have d0 : decide (left - (l.length : Int) < 0) = true := decide_eq_true c0
    go_wp2_with fail
    go_ret
    exact ⟨-1, rfl, (by repeat (first | exact Ext.refl _ | assumption | refine Ext.alloc ?_ _ | refine Ext.drew ?_ | refine Ext.drewN ?_ _ | refine Ext.setCell ?_ (by first | (simp; done) | (simp; omega) | omega) _ | refine Ext.trans ?_ (by assumption))), by omega, by omega, fun h => absurd h (by omega)⟩
  have d0 : decide (left - (l.length : Int) < 0) = false := decide_eq_false c0
  go_wp2_with fail
  go_loopg [1, 5] l.length (fun q t i wr => ∃ (j : Nat) (r : Int), j + q = l.length ∧ i = .int .i64 j ∧ t = .int .i64 r ∧ 0 ≤ r ∧ r ≤ left - (l.length : Int) ∧ Ext w wr ∧ ∀ i, i < j → ((strAt l i).size : Int) ≤ left)
  case atStart => exact ⟨0, _, by omega, rfl, rfl, by omega, by omega, (by repeat (first | exact Ext.refl _ | assumption | refine Ext.alloc ?_ _ | refine Ext.drew ?_ | refine Ext.drewN ?_ _ | refine Ext.setCell ?_ (by first | (simp; done) | (simp; omega) | omega) _ | refine Ext.trans ?_ (by assumption))), fun i hi => absurd hi (by omega)⟩
  case round =>
    obtain ⟨j, r, hj, rfl, rfl, hr0, hr1, hx, hok⟩ := hrel
    have Hok := Lib.hid hok
    clear hok
    by_cases hlt : j < l.length
    · obtain ⟨b, off, rfl, _, hb, h1⟩ := (H.out.ext hx (Nat.le_refl _)).at_ hlt
      have hbr : b < wr.heap.size := Nat.lt_of_lt_of_le hb hx.size
      have hsz := Hz.out j hlt
      have Wj : IntKind.i64.wrap (r - ((strAt l j).size : Int)) = r - ((strAt l j).size : Int) := IntWalk.i64_in _ (by omega)
      by_cases cj : r - ((strAt l j).size : Int) < 0
      · have dj : decide (r - ((strAt l j).size : Int) < 0) = true := decide_eq_true cj
        go_wp2_with fail
        go_ret
        exact ⟨-1, rfl, (by repeat (first | exact Ext.refl _ | assumption | refine Ext.alloc ?_ _ | refine Ext.drew ?_ | refine Ext.drewN ?_ _ | refine Ext.setCell ?_ (by first | (simp; done) | (simp; omega) | omega) _ | refine Ext.trans ?_ (by assumption))), by omega, by omega, fun h => absurd h (by omega)⟩
      · have dj : decide (r - ((strAt l j).size : Int) < 0) = false := decide_eq_false cj
        go_wp2_with fail
        go_roundg (l.length - (j + 1))
        case measure => omega
        case rel =>
          refine ⟨j + 1, r - ((strAt l j).size : Int), by omega, by go_num, rfl, by omega, by omega, (by repeat (first | exact Ext.refl _ | assumption | refine Ext.alloc ?_ _ | refine Ext.drew ?_ | refine Ext.drewN ?_ _ | refine Ext.setCell ?_ (by first | (simp; done) | (simp; omega) | omega) _ | refine Ext.trans ?_ (by assumption))), fun i hi => ?_⟩
          by_cases e : i = j
          · subst e; omega
          · exact Hok.out i (by omega)
    · obtain rfl : j = l.length := by omega
      go_wp2_with fail
      go_ret
      exact ⟨r, rfl, (by repeat (first | exact Ext.refl _ | assumption | refine Ext.alloc ?_ _ | refine Ext.drew ?_ | refine Ext.drewN ?_ _ | refine Ext.setCell ?_ (by first | (simp; done) | (simp; omega) | omega) _ | refine Ext.trans ?_ (by assumption))), by omega, by omega, fun _ => ⟨by omega, Hok.out⟩⟩
set_option maxHeartbeats 2000000 in
theorem laws_toStringS (v : Value) (l : List ByteArray) (lo hi : Nat) (w : World) (h : Strs w lo hi v l) (hh : hi ≤ w.heap.size) (hsm : l.length ≤ 1048576) :
    Calls Tryz.prog 190 #[v] w (NewRow 1 l.length (strCell l) w) := by
  obtain ⟨A, c, rfl, hn, hc⟩ := h.len
  have H := Lib.hid h
  clear h
  go_enter Tryz.func190, Tryz.ntmps190
  go_wp2_with (at_make; refine wpList_make_blk _ rfl _ _ 31 rfl 9 1 16 Tryz.underlying31 (by kernel_rfl) l.length rfl rfl (by omega) (by unfold maxLen; omega) ?_; intro w0 f0 hx0 hb0)
  have Hb0 := Lib.hid hb0
  clear hb0
  go_wp2_with fail
  go_loopg [4] l.length (fun m i wr => ∃ (j : Nat) (f : Nat → Value), j + m = l.length ∧ i = .int .i64 j ∧ Ext w wr ∧ Blk wr w.heap.size (l.length * 1) f ∧ ∀ i, i < j * 1 → f i = strCell l i)
  case atStart => exact ⟨0, f0, by omega, rfl, (by repeat (first | exact Ext.refl _ | assumption | refine Ext.alloc ?_ _ | refine Ext.drew ?_ | refine Ext.drewN ?_ _ | refine Ext.setCell ?_ (by first | (simp; done) | (simp; omega) | omega) _ | refine Ext.trans ?_ (by assumption))), Hb0.out, fun i hi => absurd hi (by omega)⟩
  case round =>
    obtain ⟨j, f, hj, rfl, hx, hbl, hok⟩ := hrel
    have Hok := Lib.hid hok
    clear hok
    have hbgr := hbl.1
    by_cases hlt : j < l.length
    · obtain ⟨b, off, rfl, _, hb, h1⟩ := (H.out.ext hx hh).at_ hlt
      have hbw : b < wr.heap.size := by have := hx.size; omega
      have hc0 := hbl.2 j (by omega)
      have hc0a := hc0.1
      have hc0b := hc0.2
      have Hbl := Lib.hid hbl
      clear hbl
      have hbg := Hbl.out.1
      go_wp2_with fail
      go_roundg (l.length - (j + 1))
      case measure => omega
      case rel =>
        refine ⟨j + 1, _, by omega, by go_num, (by repeat (first | exact Ext.refl _ | assumption | refine Ext.alloc ?_ _ | refine Ext.drew ?_ | refine Ext.drewN ?_ _ | refine Ext.setCell ?_ (by first | (simp; done) | (simp; omega) | omega) _ | refine Ext.trans ?_ (by assumption))), (Hbl.out.set j (.string (strAt l j)) (by omega)), fun i hi => ?_⟩
        by_cases e : i = j
        · subst e; simp [strCell]
        · rw [if_neg e]; exact Hok.out i (by omega)
    · obtain rfl : j = l.length := by omega
      have Hbl := Lib.hid hbl
      clear hbl
      go_wp2_with fail
      go_ret
      exact ⟨_, w.heap.size, rfl, (by repeat (first | exact Ext.refl _ | assumption | refine Ext.alloc ?_ _ | refine Ext.drew ?_ | refine Ext.drewN ?_ _ | refine Ext.setCell ?_ (by first | (simp; done) | (simp; omega) | omega) _ | refine Ext.trans ?_ (by assumption))), fun _ => Nat.le_refl _, Hbl.out.own (Nat.le_refl _) (by unfold maxLen; omega) (Nat.le_refl _) Hok.out⟩
set_option maxHeartbeats 2000000 in
theorem laws_eqStringS (v v' : Value) (l : List ByteArray) (w : World) (h : Strs w 0 w.heap.size v l) (h' : Strs w 0 w.heap.size v' l) :
    Calls Tryz.prog 199 #[v, v'] w (RetX (.bool true) w) := by
  obtain ⟨A, c, rfl, hn, hc⟩ := h.len
  obtain ⟨A', c', rfl, _, hc'⟩ := h'.len
  have H := Lib.hid h
  have H' := Lib.hid h'
  clear h h'
  go_enter Tryz.func199, Tryz.ntmps199
  go_wp2_with fail
  go_loopg [5] l.length (fun k i wr => ∃ j : Nat, j + k = l.length ∧ i = .int .i64 j ∧ Ext w wr)
  case atStart => exact ⟨0, by omega, rfl, (by repeat (first | exact Ext.refl _ | assumption | refine Ext.alloc ?_ _ | refine Ext.drew ?_ | refine Ext.drewN ?_ _ | refine Ext.setCell ?_ (by first | (simp; done) | (simp; omega) | omega) _ | refine Ext.trans ?_ (by assumption)))⟩
  case round =>
    obtain ⟨j, hj, rfl, hx⟩ := hrel
    by_cases hlt : j < l.length
    · obtain ⟨b, off, rfl, _, hb, h1⟩ := (H.out.ext hx (Nat.le_refl _)).at_ hlt
      obtain ⟨b', off', rfl, _, hb', h1'⟩ := (H'.out.ext hx (Nat.le_refl _)).at_ hlt
      have hbr : b < wr.heap.size := Nat.lt_of_lt_of_le hb hx.size
      have hbr' : b' < wr.heap.size := Nat.lt_of_lt_of_le hb' hx.size
      have hss := str_same (strAt l j)
      go_wp2_with fail
      (refine wp_region_onto prog_mixed (by kernel_rfl) ?_; (repeat (go_big_quiet_step ((fail)))); refine onto_end ?_; intro w1 hx1)
      go_wp2_with fail
      go_roundg (l.length - (j + 1))
      case measure => omega
      case rel => exact ⟨j + 1, by omega, by go_num, (by repeat (first | exact Ext.refl _ | assumption | refine Ext.alloc ?_ _ | refine Ext.drew ?_ | refine Ext.drewN ?_ _ | refine Ext.setCell ?_ (by first | (simp; done) | (simp; omega) | omega) _ | refine Ext.trans ?_ (by assumption)))⟩
    · obtain rfl : j = l.length := by omega
      go_wp2_with fail
      go_ret
      exact ⟨rfl, (by repeat (first | exact Ext.refl _ | assumption | refine Ext.alloc ?_ _ | refine Ext.drew ?_ | refine Ext.drewN ?_ _ | refine Ext.setCell ?_ (by first | (simp; done) | (simp; omega) | omega) _ | refine Ext.trans ?_ (by assumption)))⟩
end Go.Proofs.YtmmokjnljaifcaaGreatDoor

/- The laws' own helpers for structs of strings and numbers, clauses and witnesses. (Printed by genK2.py.) -/
namespace Go.Proofs.YtmmokjnljaifcaaGreatDoor
set_option linter.unusedVariables false
set_option linter.unusedSimpArgs false
open Go.RowKit
attribute [local go_sem] cell_onto

set_option maxHeartbeats 1000000 in
theorem laws_toClause (ki : Int) (nu : Int) (mo : Int) (fe : Int) (re : Int) (wd : Int) (st : Int) (kg : ByteArray) (w : World) : Calls Tryz.prog 267 #[.agg #[.int .i64 ki, .int .i64 nu, .int .i64 mo, .int .i64 fe, .int .i64 re, .int .i64 wd, .int .i64 st, .string kg]] w (RetX (.agg #[.int .i64 ki, .int .i64 nu, .int .i64 mo, .int .i64 fe, .int .i64 re, .int .i64 wd, .int .i64 st, .string kg]) w) := by
  go_enter Tryz.func267, Tryz.ntmps267
  go_wp2_with fail
  refine bodyPost_ret (v := .agg #[.int .i64 ki, .int .i64 nu, .int .i64 mo, .int .i64 fe, .int .i64 re, .int .i64 wd, .int .i64 st, .string kg]) (by simp [results, Tryz.results267, go_sem]) rfl ⟨rfl, (by repeat (first | exact Ext.refl _ | assumption | refine Ext.alloc ?_ _ | refine Ext.drew ?_ | refine Ext.drewN ?_ _ | refine Ext.setCell ?_ (by first | (simp; done) | (simp; omega) | omega) _ | refine Ext.trans ?_ (by assumption)))⟩
set_option maxHeartbeats 1000000 in
theorem laws_eqClause (ki : Int) (nu : Int) (mo : Int) (fe : Int) (re : Int) (wd : Int) (st : Int) (kg : ByteArray) (w : World) : Calls Tryz.prog 273 #[.agg #[.int .i64 ki, .int .i64 nu, .int .i64 mo, .int .i64 fe, .int .i64 re, .int .i64 wd, .int .i64 st, .string kg], .agg #[.int .i64 ki, .int .i64 nu, .int .i64 mo, .int .i64 fe, .int .i64 re, .int .i64 wd, .int .i64 st, .string kg]] w (RetX (.bool true) w) := by
  have hs_kg := str_same kg
  go_enter Tryz.func273, Tryz.ntmps273
  go_wp2_with fail
  go_ret
  exact ⟨rfl, (by repeat (first | exact Ext.refl _ | assumption | refine Ext.alloc ?_ _ | refine Ext.drew ?_ | refine Ext.drewN ?_ _ | refine Ext.setCell ?_ (by first | (simp; done) | (simp; omega) | omega) _ | refine Ext.trans ?_ (by assumption)))⟩
set_option maxHeartbeats 1000000 in
theorem laws_szClause (ki : Int) (nu : Int) (mo : Int) (fe : Int) (re : Int) (wd : Int) (st : Int) (kg : ByteArray) (left : Int) (w : World) (hl : left ≤ 1048576) (h0 : 0 ≤ left) (hkg : kg.size ≤ 9223372036854775807) : Calls Tryz.prog 260 #[.agg #[.int .i64 ki, .int .i64 nu, .int .i64 mo, .int .i64 fe, .int .i64 re, .int .i64 wd, .int .i64 st, .string kg], .int .i64 left] w (SzPost left ((kg.size : Int) ≤ left) w) := by
  have W0 : IntKind.i64.wrap (left - (kg.size : Int)) = left - (kg.size : Int) := IntWalk.i64_in _ (by omega)
  by_cases c0 : left - (kg.size : Int) < 0
  case pos =>
    have d0 : decide (left - (kg.size : Int) < 0) = true := decide_eq_true c0
    go_enter Tryz.func260, Tryz.ntmps260
    go_wp2_with fail
    go_ret
    exact ⟨-1, rfl, (by repeat (first | exact Ext.refl _ | assumption | refine Ext.alloc ?_ _ | refine Ext.drew ?_ | refine Ext.drewN ?_ _ | refine Ext.setCell ?_ (by first | (simp; done) | (simp; omega) | omega) _ | refine Ext.trans ?_ (by assumption))), by omega, by omega, fun h => absurd h (by omega)⟩
  have d0 : decide (left - (kg.size : Int) < 0) = false := decide_eq_false c0
  go_enter Tryz.func260, Tryz.ntmps260
  go_wp2_with fail
  go_ret
  exact ⟨left - (kg.size : Int), rfl, (by repeat (first | exact Ext.refl _ | assumption | refine Ext.alloc ?_ _ | refine Ext.drew ?_ | refine Ext.drewN ?_ _ | refine Ext.setCell ?_ (by first | (simp; done) | (simp; omega) | omega) _ | refine Ext.trans ?_ (by assumption))), by omega, by omega, fun _ => by omega⟩
set_option maxRecDepth 100000 in
set_option maxHeartbeats 2000000 in
theorem laws_szClauseS (v : Value) (l : List Cls) (left : Int) (w : World) (hl : left ≤ 1048576) (h0 : 0 ≤ left) (h : Clss w 0 w.heap.size v l) (hz : ∀ i, i < l.length → (clsAt l i).kg.size ≤ 9223372036854775807) : Calls Tryz.prog 182 #[v, .int .i64 left] w (SzPost left ((l.length : Int) ≤ left ∧ ∀ i, i < l.length → ((clsAt l i).kg.size : Int) ≤ left) w) := by
  obtain ⟨A, c, rfl, hn, hc⟩ := h.len
  have H := Lib.hid h
  have Hz := Lib.hid hz
  clear h hz
  have W0 : IntKind.i64.wrap (left - (l.length : Int)) = left - (l.length : Int) := IntWalk.i64_in _ (by omega)
  go_enter Tryz.func182, Tryz.ntmps182
  by_cases c0 : left - (l.length : Int) < 0
  case pos =>
    have d0 : decide (left - (l.length : Int) < 0) = true := decide_eq_true c0
    go_wp2_with fail
    go_ret
    exact ⟨-1, rfl, (by repeat (first | exact Ext.refl _ | assumption | refine Ext.alloc ?_ _ | refine Ext.drew ?_ | refine Ext.drewN ?_ _ | refine Ext.setCell ?_ (by first | (simp; done) | (simp; omega) | omega) _ | refine Ext.trans ?_ (by assumption))), by omega, by omega, fun h => absurd h (by omega)⟩
  have d0 : decide (left - (l.length : Int) < 0) = false := decide_eq_false c0
  go_wp2_with fail
  go_loopg [1, 5] l.length (fun q t i wr => ∃ (j : Nat) (r : Int), j + q = l.length ∧ i = .int .i64 j ∧ t = .int .i64 r ∧ 0 ≤ r ∧ r ≤ left - (l.length : Int) ∧ Ext w wr ∧ ∀ i, i < j → ((clsAt l i).kg.size : Int) ≤ left)
  case atStart => exact ⟨0, _, by omega, rfl, rfl, by omega, by omega, (by repeat (first | exact Ext.refl _ | assumption | refine Ext.alloc ?_ _ | refine Ext.drew ?_ | refine Ext.drewN ?_ _ | refine Ext.setCell ?_ (by first | (simp; done) | (simp; omega) | omega) _ | refine Ext.trans ?_ (by assumption))), fun i hi => absurd hi (by omega)⟩
  case round =>
    obtain ⟨j, r, hj, rfl, rfl, hr0, hr1, hx, hok⟩ := hrel
    have Hok := Lib.hid hok
    clear hok
    by_cases hlt : j < l.length
    · obtain ⟨b, off, rfl, _, hb, h1, h2, h3, h4, h5, h6, h7, h8⟩ := (H.out.ext hx (Nat.le_refl _)).at_ hlt
      have hbr : b < wr.heap.size := Nat.lt_of_lt_of_le hb hx.size
      have hsz := Hz.out j hlt
      go_wp2_with fail
      refine Calls.mono (laws_szClause _ _ _ _ _ _ _ _ r _ (by omega) hr0 hsz) ?_
      rintro e w1 ⟨r2, rfl, hx1, hra, hrb, hrc⟩
      have Hrc := Lib.hid hrc
      clear hrc
      by_cases cj : r2 < 0
      · have dj : decide (r2 < 0) = true := decide_eq_true cj
        go_wp2_with fail
        go_ret
        exact ⟨-1, rfl, (by repeat (first | exact Ext.refl _ | assumption | refine Ext.alloc ?_ _ | refine Ext.drew ?_ | refine Ext.drewN ?_ _ | refine Ext.setCell ?_ (by first | (simp; done) | (simp; omega) | omega) _ | refine Ext.trans ?_ (by assumption))), by omega, by omega, fun h => absurd h (by omega)⟩
      · have dj : decide (r2 < 0) = false := decide_eq_false cj
        go_wp2_with fail
        go_roundg (l.length - (j + 1))
        case measure => omega
        case rel =>
          refine ⟨j + 1, r2, by omega, by go_num, rfl, by omega, by omega, (by repeat (first | exact Ext.refl _ | assumption | refine Ext.alloc ?_ _ | refine Ext.drew ?_ | refine Ext.drewN ?_ _ | refine Ext.setCell ?_ (by first | (simp; done) | (simp; omega) | omega) _ | refine Ext.trans ?_ (by assumption))), fun i hi => ?_⟩
          by_cases e : i = j
          · subst e
            have := Hrc.out (by omega)
            omega
          · exact Hok.out i (by omega)
    · obtain rfl : j = l.length := by omega
      go_wp2_with fail
      go_ret
      exact ⟨r, rfl, (by repeat (first | exact Ext.refl _ | assumption | refine Ext.alloc ?_ _ | refine Ext.drew ?_ | refine Ext.drewN ?_ _ | refine Ext.setCell ?_ (by first | (simp; done) | (simp; omega) | omega) _ | refine Ext.trans ?_ (by assumption))), by omega, by omega, fun _ => ⟨by omega, Hok.out⟩⟩
set_option maxRecDepth 100000 in
set_option maxHeartbeats 2000000 in
theorem laws_toClauseS (v : Value) (l : List Cls) (lo hi : Nat) (w : World) (h : Clss w lo hi v l) (hh : hi ≤ w.heap.size) (hsm : l.length ≤ 1048576) :
    Calls Tryz.prog 194 #[v] w (NewRow 8 l.length (clsCell l) w) := by
  obtain ⟨A, c, rfl, hn, hc⟩ := h.len
  have H := Lib.hid h
  clear h
  go_enter Tryz.func194, Tryz.ntmps194
  go_wp2_with (at_make; refine wpList_make_blk _ rfl _ _ 106 rfl 243 8 72 Tryz.underlying106 (by kernel_rfl) l.length rfl rfl (by omega) (by unfold maxLen; omega) ?_; intro w0 f0 hx0 hb0)
  have Hb0 := Lib.hid hb0
  clear hb0
  go_wp2_with fail
  go_loopg [4] l.length (fun m i wr => ∃ (j : Nat) (f : Nat → Value), j + m = l.length ∧ i = .int .i64 j ∧ Ext w wr ∧ Blk wr w.heap.size (l.length * 8) f ∧ ∀ i, i < j * 8 → f i = clsCell l i)
  case atStart => exact ⟨0, f0, by omega, rfl, (by repeat (first | exact Ext.refl _ | assumption | refine Ext.alloc ?_ _ | refine Ext.drew ?_ | refine Ext.drewN ?_ _ | refine Ext.setCell ?_ (by first | (simp; done) | (simp; omega) | omega) _ | refine Ext.trans ?_ (by assumption))), Hb0.out, fun i hi => absurd hi (by omega)⟩
  case round =>
    obtain ⟨j, f, hj, rfl, hx, hbl, hok⟩ := hrel
    have Hok := Lib.hid hok
    clear hok
    have hbgr := hbl.1
    by_cases hlt : j < l.length
    · obtain ⟨b, off, rfl, _, hb, h1, h2, h3, h4, h5, h6, h7, h8⟩ := (H.out.ext hx hh).at_ hlt
      have hbw : b < wr.heap.size := by have := hx.size; omega
      go_wp2_with fail
      refine (laws_toClause _ _ _ _ _ _ _ _ wr).mono ?_
      rintro e w1 ⟨rfl, hx1⟩
      have hc0 := (hbl.ext hx1).2 (j * 8) (by omega)
      have hc0a := hc0.1
      have hc0b := hc0.2
      have hc1 := (hbl.ext hx1).2 (j * 8 + 1) (by omega)
      have hc1a := hc1.1
      have hc1b := hc1.2
      have hc2 := (hbl.ext hx1).2 (j * 8 + 2) (by omega)
      have hc2a := hc2.1
      have hc2b := hc2.2
      have hc3 := (hbl.ext hx1).2 (j * 8 + 3) (by omega)
      have hc3a := hc3.1
      have hc3b := hc3.2
      have hc4 := (hbl.ext hx1).2 (j * 8 + 4) (by omega)
      have hc4a := hc4.1
      have hc4b := hc4.2
      have hc5 := (hbl.ext hx1).2 (j * 8 + 5) (by omega)
      have hc5a := hc5.1
      have hc5b := hc5.2
      have hc6 := (hbl.ext hx1).2 (j * 8 + 6) (by omega)
      have hc6a := hc6.1
      have hc6b := hc6.2
      have hc7 := (hbl.ext hx1).2 (j * 8 + 7) (by omega)
      have hc7a := hc7.1
      have hc7b := hc7.2
      have Hbl := Lib.hid (hbl.ext hx1)
      clear hbl
      have hbg := Hbl.out.1
      go_wp2_with fail
      go_roundg (l.length - (j + 1))
      case measure => omega
      case rel =>
        refine ⟨j + 1, _, by omega, by go_num, (by (repeat (with_reducible refine Ext.setCell ?_ (Nat.le_refl _) _)); exact hx.trans hx1), ((((((((Hbl.out.set (j * 8) (.int .i64 (clsAt l j).ki) (by omega)).set (j * 8 + 1) (.int .i64 (clsAt l j).nu) (by omega)).set (j * 8 + 2) (.int .i64 (clsAt l j).mo) (by omega)).set (j * 8 + 3) (.int .i64 (clsAt l j).fe) (by omega)).set (j * 8 + 4) (.int .i64 (clsAt l j).re) (by omega)).set (j * 8 + 5) (.int .i64 (clsAt l j).wd) (by omega)).set (j * 8 + 6) (.int .i64 (clsAt l j).st) (by omega)).set (j * 8 + 7) (.string (clsAt l j).kg) (by omega)), fun i hi => ?_⟩
        by_cases e7 : i = j * 8 + 7
        · subst e7; simp only [if_true]; exact (clsCell_7 l j).symm
        rw [if_neg e7]
        by_cases e6 : i = j * 8 + 6
        · subst e6; simp only [if_true]; exact (clsCell_6 l j).symm
        rw [if_neg e6]
        by_cases e5 : i = j * 8 + 5
        · subst e5; simp only [if_true]; exact (clsCell_5 l j).symm
        rw [if_neg e5]
        by_cases e4 : i = j * 8 + 4
        · subst e4; simp only [if_true]; exact (clsCell_4 l j).symm
        rw [if_neg e4]
        by_cases e3 : i = j * 8 + 3
        · subst e3; simp only [if_true]; exact (clsCell_3 l j).symm
        rw [if_neg e3]
        by_cases e2 : i = j * 8 + 2
        · subst e2; simp only [if_true]; exact (clsCell_2 l j).symm
        rw [if_neg e2]
        by_cases e1 : i = j * 8 + 1
        · subst e1; simp only [if_true]; exact (clsCell_1 l j).symm
        rw [if_neg e1]
        by_cases e0 : i = j * 8
        · subst e0; simp only [if_true]; exact (clsCell_0 l j).symm
        rw [if_neg e0]
        exact Hok.out i (by omega)
    · obtain rfl : j = l.length := by omega
      have Hbl := Lib.hid hbl
      clear hbl
      go_wp2_with fail
      go_ret
      exact ⟨_, w.heap.size, rfl, (by repeat (first | exact Ext.refl _ | assumption | refine Ext.alloc ?_ _ | refine Ext.drew ?_ | refine Ext.drewN ?_ _ | refine Ext.setCell ?_ (by first | (simp; done) | (simp; omega) | omega) _ | refine Ext.trans ?_ (by assumption))), fun _ => Nat.le_refl _, Hbl.out.own (Nat.le_refl _) (by unfold maxLen; omega) (Nat.le_refl _) Hok.out⟩
set_option maxHeartbeats 2000000 in
theorem laws_eqClauseS (v v' : Value) (l : List Cls) (w : World) (h : Clss w 0 w.heap.size v l) (h' : Clss w 0 w.heap.size v' l) :
    Calls Tryz.prog 203 #[v, v'] w (RetX (.bool true) w) := by
  obtain ⟨A, c, rfl, hn, hc⟩ := h.len
  obtain ⟨A', c', rfl, _, hc'⟩ := h'.len
  have H := Lib.hid h
  have H' := Lib.hid h'
  clear h h'
  go_enter Tryz.func203, Tryz.ntmps203
  go_wp2_with fail
  go_loopg [5] l.length (fun k i wr => ∃ j : Nat, j + k = l.length ∧ i = .int .i64 j ∧ Ext w wr)
  case atStart => exact ⟨0, by omega, rfl, (by repeat (first | exact Ext.refl _ | assumption | refine Ext.alloc ?_ _ | refine Ext.drew ?_ | refine Ext.drewN ?_ _ | refine Ext.setCell ?_ (by first | (simp; done) | (simp; omega) | omega) _ | refine Ext.trans ?_ (by assumption)))⟩
  case round =>
    obtain ⟨j, hj, rfl, hx⟩ := hrel
    by_cases hlt : j < l.length
    · obtain ⟨b, off, rfl, _, hb, h1, h2, h3, h4, h5, h6, h7, h8⟩ := (H.out.ext hx (Nat.le_refl _)).at_ hlt
      obtain ⟨b', off', rfl, _, hb', h1', h2', h3', h4', h5', h6', h7', h8'⟩ := (H'.out.ext hx (Nat.le_refl _)).at_ hlt
      have hbr : b < wr.heap.size := Nat.lt_of_lt_of_le hb hx.size
      have hbr' : b' < wr.heap.size := Nat.lt_of_lt_of_le hb' hx.size
      go_wp2_with fail
      (refine wp_region_onto prog_mixed (by kernel_rfl) ?_; (repeat (go_big_quiet_step ((go_at_call 273; exact onto_callX (laws_eqClause _ _ _ _ _ _ _ _ _))))); refine onto_end ?_; intro w1 hx1)
      go_wp2_with fail
      go_roundg (l.length - (j + 1))
      case measure => omega
      case rel => exact ⟨j + 1, by omega, by go_num, (by repeat (first | exact Ext.refl _ | assumption | refine Ext.alloc ?_ _ | refine Ext.drew ?_ | refine Ext.drewN ?_ _ | refine Ext.setCell ?_ (by first | (simp; done) | (simp; omega) | omega) _ | refine Ext.trans ?_ (by assumption)))⟩
    · obtain rfl : j = l.length := by omega
      go_wp2_with fail
      go_ret
      exact ⟨rfl, (by repeat (first | exact Ext.refl _ | assumption | refine Ext.alloc ?_ _ | refine Ext.drew ?_ | refine Ext.drewN ?_ _ | refine Ext.setCell ?_ (by first | (simp; done) | (simp; omega) | omega) _ | refine Ext.trans ?_ (by assumption)))⟩
set_option maxHeartbeats 1000000 in
theorem laws_toWitness (pe : ByteArray) (of : ByteArray) (w : World) : Calls Tryz.prog 268 #[.agg #[.string pe, .string of]] w (RetX (.agg #[.string pe, .string of]) w) := by
  go_enter Tryz.func268, Tryz.ntmps268
  go_wp2_with fail
  refine bodyPost_ret (v := .agg #[.string pe, .string of]) (by simp [results, Tryz.results268, go_sem]) rfl ⟨rfl, (by repeat (first | exact Ext.refl _ | assumption | refine Ext.alloc ?_ _ | refine Ext.drew ?_ | refine Ext.drewN ?_ _ | refine Ext.setCell ?_ (by first | (simp; done) | (simp; omega) | omega) _ | refine Ext.trans ?_ (by assumption)))⟩
set_option maxHeartbeats 1000000 in
theorem laws_eqWitness (pe : ByteArray) (of : ByteArray) (w : World) : Calls Tryz.prog 274 #[.agg #[.string pe, .string of], .agg #[.string pe, .string of]] w (RetX (.bool true) w) := by
  have hs_pe := str_same pe
  have hs_of := str_same of
  go_enter Tryz.func274, Tryz.ntmps274
  go_wp2_with fail
  go_ret
  exact ⟨rfl, (by repeat (first | exact Ext.refl _ | assumption | refine Ext.alloc ?_ _ | refine Ext.drew ?_ | refine Ext.drewN ?_ _ | refine Ext.setCell ?_ (by first | (simp; done) | (simp; omega) | omega) _ | refine Ext.trans ?_ (by assumption)))⟩
set_option maxHeartbeats 1000000 in
theorem laws_szWitness (pe : ByteArray) (of : ByteArray) (left : Int) (w : World) (hl : left ≤ 1048576) (h0 : 0 ≤ left) (hpe : pe.size ≤ 9223372036854775807) (hof : of.size ≤ 9223372036854775807) : Calls Tryz.prog 261 #[.agg #[.string pe, .string of], .int .i64 left] w (SzPost left ((pe.size : Int) ≤ left ∧ (of.size : Int) ≤ left) w) := by
  have W0 : IntKind.i64.wrap (left - (pe.size : Int)) = left - (pe.size : Int) := IntWalk.i64_in _ (by omega)
  by_cases c0 : left - (pe.size : Int) < 0
  case pos =>
    have d0 : decide (left - (pe.size : Int) < 0) = true := decide_eq_true c0
    go_enter Tryz.func261, Tryz.ntmps261
    go_wp2_with fail
    go_ret
    exact ⟨-1, rfl, (by repeat (first | exact Ext.refl _ | assumption | refine Ext.alloc ?_ _ | refine Ext.drew ?_ | refine Ext.drewN ?_ _ | refine Ext.setCell ?_ (by first | (simp; done) | (simp; omega) | omega) _ | refine Ext.trans ?_ (by assumption))), by omega, by omega, fun h => absurd h (by omega)⟩
  have d0 : decide (left - (pe.size : Int) < 0) = false := decide_eq_false c0
  have W1 : IntKind.i64.wrap (left - (pe.size : Int) - (of.size : Int)) = left - (pe.size : Int) - (of.size : Int) := IntWalk.i64_in _ (by omega)
  by_cases c1 : left - (pe.size : Int) - (of.size : Int) < 0
  case pos =>
    have d1 : decide (left - (pe.size : Int) - (of.size : Int) < 0) = true := decide_eq_true c1
    go_enter Tryz.func261, Tryz.ntmps261
    go_wp2_with fail
    go_ret
    exact ⟨-1, rfl, (by repeat (first | exact Ext.refl _ | assumption | refine Ext.alloc ?_ _ | refine Ext.drew ?_ | refine Ext.drewN ?_ _ | refine Ext.setCell ?_ (by first | (simp; done) | (simp; omega) | omega) _ | refine Ext.trans ?_ (by assumption))), by omega, by omega, fun h => absurd h (by omega)⟩
  have d1 : decide (left - (pe.size : Int) - (of.size : Int) < 0) = false := decide_eq_false c1
  go_enter Tryz.func261, Tryz.ntmps261
  go_wp2_with fail
  go_ret
  exact ⟨left - (pe.size : Int) - (of.size : Int), rfl, (by repeat (first | exact Ext.refl _ | assumption | refine Ext.alloc ?_ _ | refine Ext.drew ?_ | refine Ext.drewN ?_ _ | refine Ext.setCell ?_ (by first | (simp; done) | (simp; omega) | omega) _ | refine Ext.trans ?_ (by assumption))), by omega, by omega, fun _ => by omega⟩
set_option maxRecDepth 100000 in
set_option maxHeartbeats 2000000 in
theorem laws_szWitnessS (v : Value) (l : List Wit) (left : Int) (w : World) (hl : left ≤ 1048576) (h0 : 0 ≤ left) (h : Wits w 0 w.heap.size v l) (hz : ∀ i, i < l.length → (witAt l i).pe.size ≤ 9223372036854775807 ∧ (witAt l i).of.size ≤ 9223372036854775807) : Calls Tryz.prog 183 #[v, .int .i64 left] w (SzPost left ((l.length : Int) ≤ left ∧ ∀ i, i < l.length → ((witAt l i).pe.size : Int) ≤ left ∧ ((witAt l i).of.size : Int) ≤ left) w) := by
  obtain ⟨A, c, rfl, hn, hc⟩ := h.len
  have H := Lib.hid h
  have Hz := Lib.hid hz
  clear h hz
  have W0 : IntKind.i64.wrap (left - (l.length : Int)) = left - (l.length : Int) := IntWalk.i64_in _ (by omega)
  go_enter Tryz.func183, Tryz.ntmps183
  by_cases c0 : left - (l.length : Int) < 0
  case pos =>
    have d0 : decide (left - (l.length : Int) < 0) = true := decide_eq_true c0
    go_wp2_with fail
    go_ret
    exact ⟨-1, rfl, (by repeat (first | exact Ext.refl _ | assumption | refine Ext.alloc ?_ _ | refine Ext.drew ?_ | refine Ext.drewN ?_ _ | refine Ext.setCell ?_ (by first | (simp; done) | (simp; omega) | omega) _ | refine Ext.trans ?_ (by assumption))), by omega, by omega, fun h => absurd h (by omega)⟩
  have d0 : decide (left - (l.length : Int) < 0) = false := decide_eq_false c0
  go_wp2_with fail
  go_loopg [1, 5] l.length (fun q t i wr => ∃ (j : Nat) (r : Int), j + q = l.length ∧ i = .int .i64 j ∧ t = .int .i64 r ∧ 0 ≤ r ∧ r ≤ left - (l.length : Int) ∧ Ext w wr ∧ ∀ i, i < j → ((witAt l i).pe.size : Int) ≤ left ∧ ((witAt l i).of.size : Int) ≤ left)
  case atStart => exact ⟨0, _, by omega, rfl, rfl, by omega, by omega, (by repeat (first | exact Ext.refl _ | assumption | refine Ext.alloc ?_ _ | refine Ext.drew ?_ | refine Ext.drewN ?_ _ | refine Ext.setCell ?_ (by first | (simp; done) | (simp; omega) | omega) _ | refine Ext.trans ?_ (by assumption))), fun i hi => absurd hi (by omega)⟩
  case round =>
    obtain ⟨j, r, hj, rfl, rfl, hr0, hr1, hx, hok⟩ := hrel
    have Hok := Lib.hid hok
    clear hok
    by_cases hlt : j < l.length
    · obtain ⟨b, off, rfl, _, hb, h1, h2⟩ := (H.out.ext hx (Nat.le_refl _)).at_ hlt
      have hbr : b < wr.heap.size := Nat.lt_of_lt_of_le hb hx.size
      have hsz := Hz.out j hlt
      go_wp2_with fail
      refine Calls.mono (laws_szWitness _ _ r _ (by omega) hr0 hsz.1 hsz.2) ?_
      rintro e w1 ⟨r2, rfl, hx1, hra, hrb, hrc⟩
      have Hrc := Lib.hid hrc
      clear hrc
      by_cases cj : r2 < 0
      · have dj : decide (r2 < 0) = true := decide_eq_true cj
        go_wp2_with fail
        go_ret
        exact ⟨-1, rfl, (by repeat (first | exact Ext.refl _ | assumption | refine Ext.alloc ?_ _ | refine Ext.drew ?_ | refine Ext.drewN ?_ _ | refine Ext.setCell ?_ (by first | (simp; done) | (simp; omega) | omega) _ | refine Ext.trans ?_ (by assumption))), by omega, by omega, fun h => absurd h (by omega)⟩
      · have dj : decide (r2 < 0) = false := decide_eq_false cj
        go_wp2_with fail
        go_roundg (l.length - (j + 1))
        case measure => omega
        case rel =>
          refine ⟨j + 1, r2, by omega, by go_num, rfl, by omega, by omega, (by repeat (first | exact Ext.refl _ | assumption | refine Ext.alloc ?_ _ | refine Ext.drew ?_ | refine Ext.drewN ?_ _ | refine Ext.setCell ?_ (by first | (simp; done) | (simp; omega) | omega) _ | refine Ext.trans ?_ (by assumption))), fun i hi => ?_⟩
          by_cases e : i = j
          · subst e
            have := Hrc.out (by omega)
            omega
          · exact Hok.out i (by omega)
    · obtain rfl : j = l.length := by omega
      go_wp2_with fail
      go_ret
      exact ⟨r, rfl, (by repeat (first | exact Ext.refl _ | assumption | refine Ext.alloc ?_ _ | refine Ext.drew ?_ | refine Ext.drewN ?_ _ | refine Ext.setCell ?_ (by first | (simp; done) | (simp; omega) | omega) _ | refine Ext.trans ?_ (by assumption))), by omega, by omega, fun _ => ⟨by omega, Hok.out⟩⟩
set_option maxRecDepth 100000 in
set_option maxHeartbeats 2000000 in
theorem laws_toWitnessS (v : Value) (l : List Wit) (lo hi : Nat) (w : World) (h : Wits w lo hi v l) (hh : hi ≤ w.heap.size) (hsm : l.length ≤ 1048576) :
    Calls Tryz.prog 195 #[v] w (NewRow 2 l.length (witCell l) w) := by
  obtain ⟨A, c, rfl, hn, hc⟩ := h.len
  have H := Lib.hid h
  clear h
  go_enter Tryz.func195, Tryz.ntmps195
  go_wp2_with (at_make; refine wpList_make_blk _ rfl _ _ 107 rfl 190 2 32 Tryz.underlying107 (by kernel_rfl) l.length rfl rfl (by omega) (by unfold maxLen; omega) ?_; intro w0 f0 hx0 hb0)
  have Hb0 := Lib.hid hb0
  clear hb0
  go_wp2_with fail
  go_loopg [4] l.length (fun m i wr => ∃ (j : Nat) (f : Nat → Value), j + m = l.length ∧ i = .int .i64 j ∧ Ext w wr ∧ Blk wr w.heap.size (l.length * 2) f ∧ ∀ i, i < j * 2 → f i = witCell l i)
  case atStart => exact ⟨0, f0, by omega, rfl, (by repeat (first | exact Ext.refl _ | assumption | refine Ext.alloc ?_ _ | refine Ext.drew ?_ | refine Ext.drewN ?_ _ | refine Ext.setCell ?_ (by first | (simp; done) | (simp; omega) | omega) _ | refine Ext.trans ?_ (by assumption))), Hb0.out, fun i hi => absurd hi (by omega)⟩
  case round =>
    obtain ⟨j, f, hj, rfl, hx, hbl, hok⟩ := hrel
    have Hok := Lib.hid hok
    clear hok
    have hbgr := hbl.1
    by_cases hlt : j < l.length
    · obtain ⟨b, off, rfl, _, hb, h1, h2⟩ := (H.out.ext hx hh).at_ hlt
      have hbw : b < wr.heap.size := by have := hx.size; omega
      go_wp2_with fail
      refine (laws_toWitness _ _ wr).mono ?_
      rintro e w1 ⟨rfl, hx1⟩
      have hc0 := (hbl.ext hx1).2 (j * 2) (by omega)
      have hc0a := hc0.1
      have hc0b := hc0.2
      have hc1 := (hbl.ext hx1).2 (j * 2 + 1) (by omega)
      have hc1a := hc1.1
      have hc1b := hc1.2
      have Hbl := Lib.hid (hbl.ext hx1)
      clear hbl
      have hbg := Hbl.out.1
      go_wp2_with fail
      go_roundg (l.length - (j + 1))
      case measure => omega
      case rel =>
        refine ⟨j + 1, _, by omega, by go_num, (by repeat (first | exact Ext.refl _ | assumption | refine Ext.alloc ?_ _ | refine Ext.drew ?_ | refine Ext.drewN ?_ _ | refine Ext.setCell ?_ (by first | (simp; done) | (simp; omega) | omega) _ | refine Ext.trans ?_ (by assumption))), ((Hbl.out.set (j * 2) (.string (witAt l j).pe) (by omega)).set (j * 2 + 1) (.string (witAt l j).of) (by omega)), fun i hi => ?_⟩
        by_cases e1 : i = j * 2 + 1
        · subst e1; simp only [if_true]; exact (witCell_1 l j).symm
        rw [if_neg e1]
        by_cases e0 : i = j * 2
        · subst e0; simp only [if_true]; exact (witCell_0 l j).symm
        rw [if_neg e0]
        exact Hok.out i (by omega)
    · obtain rfl : j = l.length := by omega
      have Hbl := Lib.hid hbl
      clear hbl
      go_wp2_with fail
      go_ret
      exact ⟨_, w.heap.size, rfl, (by repeat (first | exact Ext.refl _ | assumption | refine Ext.alloc ?_ _ | refine Ext.drew ?_ | refine Ext.drewN ?_ _ | refine Ext.setCell ?_ (by first | (simp; done) | (simp; omega) | omega) _ | refine Ext.trans ?_ (by assumption))), fun _ => Nat.le_refl _, Hbl.out.own (Nat.le_refl _) (by unfold maxLen; omega) (Nat.le_refl _) Hok.out⟩
set_option maxHeartbeats 2000000 in
theorem laws_eqWitnessS (v v' : Value) (l : List Wit) (w : World) (h : Wits w 0 w.heap.size v l) (h' : Wits w 0 w.heap.size v' l) :
    Calls Tryz.prog 204 #[v, v'] w (RetX (.bool true) w) := by
  obtain ⟨A, c, rfl, hn, hc⟩ := h.len
  obtain ⟨A', c', rfl, _, hc'⟩ := h'.len
  have H := Lib.hid h
  have H' := Lib.hid h'
  clear h h'
  go_enter Tryz.func204, Tryz.ntmps204
  go_wp2_with fail
  go_loopg [5] l.length (fun k i wr => ∃ j : Nat, j + k = l.length ∧ i = .int .i64 j ∧ Ext w wr)
  case atStart => exact ⟨0, by omega, rfl, (by repeat (first | exact Ext.refl _ | assumption | refine Ext.alloc ?_ _ | refine Ext.drew ?_ | refine Ext.drewN ?_ _ | refine Ext.setCell ?_ (by first | (simp; done) | (simp; omega) | omega) _ | refine Ext.trans ?_ (by assumption)))⟩
  case round =>
    obtain ⟨j, hj, rfl, hx⟩ := hrel
    by_cases hlt : j < l.length
    · obtain ⟨b, off, rfl, _, hb, h1, h2⟩ := (H.out.ext hx (Nat.le_refl _)).at_ hlt
      obtain ⟨b', off', rfl, _, hb', h1', h2'⟩ := (H'.out.ext hx (Nat.le_refl _)).at_ hlt
      have hbr : b < wr.heap.size := Nat.lt_of_lt_of_le hb hx.size
      have hbr' : b' < wr.heap.size := Nat.lt_of_lt_of_le hb' hx.size
      go_wp2_with fail
      (refine wp_region_onto prog_mixed (by kernel_rfl) ?_; (repeat (go_big_quiet_step ((go_at_call 274; exact onto_callX (laws_eqWitness _ _ _))))); refine onto_end ?_; intro w1 hx1)
      go_wp2_with fail
      go_roundg (l.length - (j + 1))
      case measure => omega
      case rel => exact ⟨j + 1, by omega, by go_num, (by repeat (first | exact Ext.refl _ | assumption | refine Ext.alloc ?_ _ | refine Ext.drew ?_ | refine Ext.drewN ?_ _ | refine Ext.setCell ?_ (by first | (simp; done) | (simp; omega) | omega) _ | refine Ext.trans ?_ (by assumption)))⟩
    · obtain rfl : j = l.length := by omega
      go_wp2_with fail
      go_ret
      exact ⟨rfl, (by repeat (first | exact Ext.refl _ | assumption | refine Ext.alloc ?_ _ | refine Ext.drew ?_ | refine Ext.drewN ?_ _ | refine Ext.setCell ?_ (by first | (simp; done) | (simp; omega) | omega) _ | refine Ext.trans ?_ (by assumption)))⟩
end Go.Proofs.YtmmokjnljaifcaaGreatDoor
