/- Texts merged (a claim holds at most sixty files): Jv, Jx. -/
import Derived.Test.YtbddkmlfjghllaaGreatDoorT1Jt
import Derived.Test.YtbddkmlfjghllaaGreatDoorT1Jc
/- Contracts: ReadMarks of the program and of the reference. (Printed by genRM.py.) -/
namespace Go.Proofs.YtbddkmlfjghllaaGreatDoor
set_option linter.unusedVariables false
set_option linter.unusedSimpArgs false
open Go.RowKit
attribute [local go_sem] cell_onto

theorem splL_sz (c : UInt8) : ∀ (s : Bs) (x : Bs), x ∈ splL c s → x.length ≤ s.length
  | [], x, h => by simp [splL] at h; subst h; exact Nat.le_refl _
  | b :: r, x, h => by
    by_cases e : b = c
    · subst e
      rw [splL_is] at h
      rcases List.mem_cons.1 h with rfl | h
      · exact Nat.zero_le _
      · have := splL_sz b r x h; simp; omega
    · rw [splL_nt r e] at h
      split at h
      · simp at h; subst h; simp
      · rename_i y ys hy
        rcases List.mem_cons.1 h with rfl | h
        · have := splL_sz c r y (by rw [hy]; simp); simp; exact this
        · have := splL_sz c r x (by rw [hy]; simp [h]); simp; omega
theorem getD_sz (c : UInt8) (s : Bs) (i : Nat) : ((splL c s).getD i []).length ≤ s.length := by
  rw [List.getD_eq_getElem?_getD]
  cases h : (splL c s)[i]? with
  | none => exact Nat.zero_le _
  | some x => exact splL_sz c s x (List.mem_of_getElem? h)
theorem lastL_sz (c : UInt8) (s : Bs) : (lastL (splL c s)).length ≤ s.length := getD_sz c s _
theorem cut_sz (s sep : Bs) : (Lib.cut s sep).1.length ≤ s.length ∧ (Lib.cut s sep).2.1.length ≤ s.length := by
  unfold Lib.cut
  split
  · exact ⟨by rw [List.length_take]; omega, by rw [List.length_drop]; omega⟩
  · exact ⟨Nat.le_refl _, Nat.zero_le _⟩
theorem byL_size (l : Bs) : (byL l).size = l.length := by unfold byL; simp [ByteArray.size]
theorem prI_ok {p : Bs} (h1 : (Lib.cut p [58]).2.2 = true) (h2 : (Lib.cut (Lib.cut p [58]).2.1 [46, 46]).2.2 = true) (h3 : numB' (byL (Lib.cut (Lib.cut p [58]).2.1 [46, 46]).1) = true) (h4 : numB' (byL (Lib.cut (Lib.cut p [58]).2.1 [46, 46]).2.1) = true) :
    prI p = some ⟨byL (Lib.cut p [58]).1, numV (byL (Lib.cut (Lib.cut p [58]).2.1 [46, 46]).1), numV (byL (Lib.cut (Lib.cut p [58]).2.1 [46, 46]).2.1)⟩ := by
  unfold prI
  rcases hc : Lib.cut p [58] with ⟨name, days, b⟩
  rw [hc] at h1 h2 h3 h4
  simp only at h1 h2 h3 h4
  subst h1
  simp only
  rcases hd : Lib.cut days [46, 46] with ⟨head, tail, b⟩
  rw [hd] at h2 h3 h4
  simp only at h2 h3 h4
  subst h2
  unfold numB' at h3 h4
  unfold numV
  simp only
  rw [byL_list] at h3 h4 ⊢
  rw [byL_list]
  cases e3 : numO head with
  | none => rw [e3] at h3; cases h3
  | some a =>
    cases e4 : numO tail with
    | none => rw [e4] at h4; cases h4
    | some b => rfl
theorem prI_bad {p : Bs} (h : (Lib.cut p [58]).2.2 = false ∨ (Lib.cut (Lib.cut p [58]).2.1 [46, 46]).2.2 = false ∨ numB' (byL (Lib.cut (Lib.cut p [58]).2.1 [46, 46]).1) = false ∨ numB' (byL (Lib.cut (Lib.cut p [58]).2.1 [46, 46]).2.1) = false) : prI p = none := by
  unfold prI
  rcases hc : Lib.cut p [58] with ⟨name, days, b⟩
  rw [hc] at h
  simp only at h
  cases b with
  | false => rfl
  | true =>
    simp only
    rcases hd : Lib.cut days [46, 46] with ⟨head, tail, b⟩
    rw [hd] at h
    simp only at h
    cases b with
    | false => rfl
    | true =>
      simp only
      unfold numB' at h
      rw [byL_list, byL_list] at h
      rcases h with h | h | h | h
      · cases h
      · cases h
      · cases e3 : numO head with
        | none => rfl
        | some a => rw [e3] at h; cases h
      · cases e4 : numO tail with
        | none => cases numO head <;> rfl
        | some a => rw [e4] at h; cases h
theorem prIs_none : ∀ {ps : List Bs} {i : Nat} (h : i < ps.length), prI (ps[i]) = none → prIs ps = none
  | [], i, h, _ => absurd h (by simp)
  | p :: r, 0, _, h => by
    have h : prI p = none := h
    unfold prIs
    rw [h]
  | p :: r, i + 1, hi, h => by
    have h : prI (r[i]'(by simpa using hi)) = none := h
    unfold prIs
    rw [prIs_none _ h]
    cases prI p <;> rfl
theorem prIs_push : ∀ {ps : List Bs} {ms : List Nsp} {p : Bs} {m : Nsp}, prIs ps = some ms → prI p = some m → prIs (ps ++ [p]) = some (ms ++ [m])
  | [], ms, p, m, h1, h2 => by
    injection h1 with h1
    subst h1
    show (match prI p, prIs [] with | some m, some l => some (m :: l) | _, _ => none) = _
    rw [h2]
    rfl
  | q :: r, ms, p, m, h1, h2 => by
    unfold prIs at h1
    split at h1
    · rename_i a l ha hl
      injection h1 with h1
      subst h1
      show (match prI q, prIs (r ++ [p]) with | some m, some l => some (m :: l) | _, _ => none) = _
      rw [prIs_push hl h2, ha]
      rfl
    · cases h1
theorem prIs_len : ∀ {ps : List Bs} {ms : List Nsp}, prIs ps = some ms → ms.length = ps.length
  | [], ms, h => by injection h with h; subst h; rfl
  | p :: r, ms, h => by
    unfold prIs at h
    split at h
    · rename_i a l ha hl
      injection h with h
      subst h
      simp [prIs_len hl]
    · cases h
/-- two results: marks of the call's own, and a code -/
def NewNspD (l : List Nsp) (e0 : Int) (w : World) (e : Ending) (w' : World) : Prop :=
  ∃ v g, e = .returned (.tuple #[v, .int .i64 e0]) ∧ Ext w w' ∧ (0 < l.length → w.heap.size ≤ g) ∧ Own w' g 3 v l.length (nspCell l)
theorem NewNspD.nil (e0 : Int) {w w' : World} (h : Ext w w') : NewNspD [] e0 w (.returned (.tuple #[.slice none 0 0, .int .i64 e0])) w' :=
  ⟨_, 0, rfl, h, fun h => absurd h (by simp), Nat.zero_le _, none, 0, rfl, Nat.le_refl _, fun h => absurd h (by simp)⟩
theorem NewNspD.of {T : TypeId} {l : List Nsp} {e0 : Int} {w w' : World} {v : Value} (h : Ext w w') (hr : RowNsp w' w.heap.size T v l) : NewNspD l e0 w (.returned (.tuple #[v, .int .i64 e0])) w' := by
  obtain ⟨g, hg, ho⟩ := Own.of_owned hr
  exact ⟨v, g, rfl, h, fun hn => (hg hn).2, ho⟩
theorem NewNspD.of0 {T : TypeId} {e0 : Int} {w w' : World} {v : Value} (h : Ext w w') (hr : RowNsp w' w.heap.size T v []) : NewNspD [] e0 w (.returned (.tuple #[v, .int .i64 e0])) w' := NewNspD.of h hr
/-- a row of the call's own, or an empty slice of whatever block -/
def DNsp (w : World) (base : Nat) (T : TypeId) (u : Value) (l : List Nsp) : Prop := RowNsp w base T u l ∨ (l = [] ∧ (∃ A, u = .slice A 0 0) ∧ ∀ g, u.ownBlock = some g → g < w.heap.size)
section
variable {w w' : World} {base : Nat} {T : TypeId} {u : Value} {l : List Nsp}
theorem DNsp.made (w w1 : World) (T : TypeId) (base : Nat) (hx : Ext (w.alloc (.cells #[] T)) w1) : DNsp w1 base T (.slice (some ⟨w.heap.size, 0, none⟩) 0 0) [] :=
  .inr ⟨rfl, ⟨_, rfl⟩, fun g hg => by
    have h1 : w.heap.size = g := by simpa [Value.ownBlock] using hg
    have h2 := hx.size
    rw [World.size_alloc] at h2
    omega⟩
theorem DNsp.ext (h : DNsp w base T u l) (hx : Ext w w') : DNsp w' base T u l := by
  rcases h with h | ⟨h1, h2, h3⟩
  · exact .inl (h.ext hx)
  · exact .inr ⟨h1, h2, fun g hg => Nat.lt_of_lt_of_le (h3 g hg) hx.size⟩
theorem DNsp.dst (h : DNsp w base T u l) : Dst w base T 3 u l.length (cellsOf (l.length * 3) (nspCell l)) := by
  rcases h with h | ⟨rfl, h2, h3⟩
  · exact .inl h
  · exact .inr ⟨rfl, rfl, h2, h3⟩
theorem DNsp.len (h : DNsp w base T u l) : ∃ A c, u = .slice A l.length c := by
  rcases h with h | ⟨rfl, ⟨A, rfl⟩, _⟩
  · exact ownsRow_len h
  · exact ⟨A, 0, rfl⟩
theorem DNsp.rows (h : DNsp w base T u l) : Nsps w 0 w.heap.size u l := by
  rcases h with h | ⟨rfl, ⟨A, rfl⟩, _⟩
  · exact h.rows
  · exact ⟨Nat.zero_le _, A, 0, rfl, Nat.le_refl _, fun hn => absurd hn (by simp)⟩
theorem NewNspD.ofD {a : World} {e0 : Int} (hx : Ext a w) (hb : a.heap.size ≤ base) (h : DNsp w base T u l) : NewNspD l e0 a (.returned (.tuple #[u, .int .i64 e0])) w := by
  rcases h with h | ⟨rfl, ⟨A, rfl⟩, _⟩
  · exact NewNspD.of hx (ownsRow_mono h hb)
  · exact ⟨_, 0, rfl, hx, fun h => absurd h (by simp), Nat.zero_le _, A, 0, rfl, Nat.le_refl _, fun h => absurd h (by simp)⟩
end
theorem map_getD (l : List Bs) {i : Nat} (h : i < l.length) : strAt (l.map byL) i = byL l[i] := by
  rw [strAt_map, List.getD_eq_getElem?_getD, List.getElem?_eq_getElem h]
  rfl
theorem Strs.cap {w : World} {lo hi : Nat} {A : Option Addr} {c : Nat} {l : List ByteArray} (h : Strs w lo hi (.slice A l.length c) l) : l.length ≤ c := by
  obtain ⟨_, A', c', e, h2, _⟩ := h
  injection e with _ _ e
  rw [e]
  exact h2
theorem dash_is (s : ByteArray) : s = ⟨#[45]⟩ ↔ s.data.toList = [45] := ⟨fun h => by rw [h], fun h => bytes_ext h⟩
set_option maxRecDepth 100000 in
set_option maxHeartbeats 16000000 in
theorem impl_ReadMarks (s : ByteArray) (w : World) (hs : s.size ≤ 1048576) (ht : TabW w) (hm : MaxW w) (hsy : ErrW 1 w) (hra : ErrW 2 w) : Calls Tryz.prog 30 #[.string s] w (NewNspD (rmL s.data.toList) (rmE s.data.toList) w) := by
  have Ht := Lib.hid ht
  have Hm := Lib.hid hm
  have Hsy := Lib.hid hsy
  have Hra := Lib.hid hra
  clear ht hm hsy hra
  by_cases hd : s = ⟨#[45]⟩
  · have h1 := rm_dash
    rw [← (dash_is s).1 hd] at h1
    have Hd := Lib.hid h1
    have T : (s.toList == [45]) = true := by rw [beq_iff_eq, toList_data]; exact (dash_is s).1 hd
    clear h1
    go_enter Tryz.func30, Tryz.ntmps30
    go_wp2_with fail
    go_ret2
    rw [Hd.out.1, Hd.out.2]
    exact NewNspD.nil 0 (by repeat (first | exact Ext.refl _ | assumption | refine Ext.alloc ?_ _ | refine Ext.drew ?_ | refine Ext.drewN ?_ _ | refine Ext.setCell ?_ (by first | (simp; done) | (simp; omega) | omega) _ | refine Ext.trans ?_ (by assumption)))
  have hne : s.data.toList ≠ [45] := fun h => hd ((dash_is s).2 h)
  have Hne := Lib.hid hne
  have T : (s.toList == [45]) = false := by rw [beq_eq_false_iff_ne, toList_data]; exact hne
  have Hpn := Lib.hid (fun (h : prIs (splL 44 s.data.toList) = none) => rm_no hne (fun l h2 => by have h3 := h2.1; rw [h] at h3; cases h3))
  have HY := Lib.hid (fun (l : List Nsp) (h : prIs (splL 44 s.data.toList) = some l) (h2 : MksOk l) => rm_yes hne ⟨h, h2⟩)
  have HN := Lib.hid (fun (l : List Nsp) (h : prIs (splL 44 s.data.toList) = some l) (h2 : ¬ MksOk l) => rm_no hne (fun k hk => h2 (by have h3 := hk.1; rw [h] at h3; injection h3 with h3; rw [h3]; exact hk.2)))
  clear hne hd
  go_enter Tryz.func30, Tryz.ntmps30
  go_wp2_with fail
  refine Calls.mono (strings_Split_b s 44 _ (Hm.out.ext (by repeat (first | exact Ext.refl _ | assumption | refine Ext.alloc ?_ _ | refine Ext.drew ?_ | refine Ext.drewN ?_ _ | refine Ext.setCell ?_ (by first | (simp; done) | (simp; omega) | omega) _ | refine Ext.trans ?_ (by assumption)))) hs) ?_
  rintro e w1 ⟨A, c, rfl, hx1, hp0⟩
  have hp := Strs.mono hp0 (Nat.zero_le _) (Nat.le_refl _)
  have Hp := Lib.hid hp
  clear hp0
  have Hrow0 := Lib.hid (DNsp.made w w1 88 w1.heap.size hx1)
  have Hsz := Lib.hid (splL_sz 44 s.data.toList)
  have Hlen := Lib.hid (show (splL 44 s.data.toList).length ≤ 1048577 from by have := splL_len 44 s.data.toList; simp at this; omega)
  have hcap := Strs.cap hp
  have hxw1 : Ext w w1 := (by repeat (first | exact Ext.refl _ | assumption | refine Ext.alloc ?_ _ | refine Ext.drew ?_ | refine Ext.drewN ?_ _ | refine Ext.setCell ?_ (by first | (simp; done) | (simp; omega) | omega) _ | refine Ext.trans ?_ (by assumption)))
  clear hp
  have Hss := Lib.hid (show s.data.toList.length ≤ 1048576 from by simpa using hs)
  generalize splL 44 s.data.toList = P at *
  have hPl : (P.map byL).length = P.length := by simp
  rw [hPl] at hcap Hp ⊢
  have hlen := Hlen.out
  go_wp2_with fail
  go_loopg [4, 23] P.length (fun q u4 u23 wr => ∃ (j : Nat) (ms : List Nsp), j + q = P.length ∧ u23 = .int .i64 j ∧ Ext w wr ∧ Ext w1 wr ∧ Hid (DNsp wr w1.heap.size 88 u4 ms) ∧ Hid (prIs (P.take j) = some ms))
  case atStart => exact ⟨0, [], by omega, rfl, (by repeat (first | exact Ext.refl _ | assumption | refine Ext.alloc ?_ _ | refine Ext.drew ?_ | refine Ext.drewN ?_ _ | refine Ext.setCell ?_ (by first | (simp; done) | (simp; omega) | omega) _ | refine Ext.trans ?_ (by assumption))), (by repeat (first | exact Ext.refl _ | assumption | refine Ext.alloc ?_ _ | refine Ext.drew ?_ | refine Ext.drewN ?_ _ | refine Ext.setCell ?_ (by first | (simp; done) | (simp; omega) | omega) _ | refine Ext.trans ?_ (by assumption))), Hrow0, Lib.hid rfl⟩
  clear Hrow0
  case round =>
    obtain ⟨j, ms, hj, rfl, hx, hxp, Hr, Hq⟩ := hrel
    obtain ⟨A4, c4, rfl⟩ := Hr.out.len
    have hz := hx.size
    have hml : ms.length ≤ j := by have := prIs_len Hq.out; rw [List.length_take] at this; omega
    by_cases hlt : j < P.length
    · obtain ⟨b, off, rfl, _, hb, h1⟩ := (Hp.out.ext hxp (Nat.le_refl _)).at_ (i := j) (by rw [hPl]; exact hlt)
      rw [map_getD P hlt] at h1
      have hbr : b < wr.heap.size := Nat.lt_of_lt_of_le hb hxp.size
      have hj0 : (0 : Int) ≤ (j : Int) := by omega
      have hji : (j : Int) < (P.length : Int) := by omega
      have hsz : P[j].length ≤ 1048576 := Nat.le_trans (Hsz.out _ (List.getElem_mem hlt)) Hss.out
      have Htk := Lib.hid (show P.take (j + 1) = P.take j ++ [P[j]] from List.take_succ_eq_append_getElem hlt)
      have Hbad := Lib.hid (fun h => Hpn.out (prIs_none hlt (prI_bad h)))
      have Hok0 := Lib.hid (fun m (h : prI P[j] = some m) => prIs_push Hq.out h)
      generalize P[j] = p at *
      have Hok := Lib.hid (fun (h1 : (Lib.cut p [58]).2.2 = true) (h2 : (Lib.cut (Lib.cut p [58]).2.1 [46, 46]).2.2 = true) (h3 : numB' (byL (Lib.cut (Lib.cut p [58]).2.1 [46, 46]).1) = true) (h4 : numB' (byL (Lib.cut (Lib.cut p [58]).2.1 [46, 46]).2.1) = true) => Hok0.out _ (prI_ok h1 h2 h3 h4))
      clear Hok0
      try simp only [Nat.mul_one] at h1
      have Hs1 := Lib.hid (cut_sz p [58])
      have Hs2 := Lib.hid (cut_sz (Lib.cut p [58]).2.1 [46, 46])
      go_wp2_with fail
      refine Calls.mono (strings_Cut_b (byL p) ⟨#[58]⟩ _ (Hm.out.ext (by repeat (first | exact Ext.refl _ | assumption | refine Ext.alloc ?_ _ | refine Ext.drew ?_ | refine Ext.drewN ?_ _ | refine Ext.setCell ?_ (by first | (simp; done) | (simp; omega) | omega) _ | refine Ext.trans ?_ (by assumption)))) (by rw [byL_size]; exact hsz)) ?_
      rintro e w2 ⟨rfl, hx2⟩
      rw [byL_list]
      generalize hq1 : (Lib.cut p [58]).2.2 = q1 at *
      generalize (Lib.cut p [58]).1 = nm at *
      generalize (Lib.cut p [58]).2.1 = dy at *
      go_wp2_with fail
      refine Calls.mono (strings_Cut_b (byL dy) ⟨#[46, 46]⟩ _ (Hm.out.ext (by repeat (first | exact Ext.refl _ | assumption | refine Ext.alloc ?_ _ | refine Ext.drew ?_ | refine Ext.drewN ?_ _ | refine Ext.setCell ?_ (by first | (simp; done) | (simp; omega) | omega) _ | refine Ext.trans ?_ (by assumption)))) (by have := Hs1.out.2; rw [byL_size]; omega)) ?_
      rintro e w3 ⟨rfl, hx3⟩
      rw [byL_list]
      generalize hq2 : (Lib.cut dy [46, 46]).2.2 = q2 at *
      generalize (Lib.cut dy [46, 46]).1 = hd at *
      generalize (Lib.cut dy [46, 46]).2.1 = tl at *
      go_wp2_with fail
      refine Calls.mono (impl_number (byL hd) _ (by have := Hs1.out.2; have := Hs2.out.1; rw [byL_size]; omega) (Ht.out.ext (by repeat (first | exact Ext.refl _ | assumption | refine Ext.alloc ?_ _ | refine Ext.drew ?_ | refine Ext.drewN ?_ _ | refine Ext.setCell ?_ (by first | (simp; done) | (simp; omega) | omega) _ | refine Ext.trans ?_ (by assumption)))) (Hsy.out.ext (by repeat (first | exact Ext.refl _ | assumption | refine Ext.alloc ?_ _ | refine Ext.drew ?_ | refine Ext.drewN ?_ _ | refine Ext.setCell ?_ (by first | (simp; done) | (simp; omega) | omega) _ | refine Ext.trans ?_ (by assumption)))) (Hra.out.ext (by repeat (first | exact Ext.refl _ | assumption | refine Ext.alloc ?_ _ | refine Ext.drew ?_ | refine Ext.drewN ?_ _ | refine Ext.setCell ?_ (by first | (simp; done) | (simp; omega) | omega) _ | refine Ext.trans ?_ (by assumption))))) ?_
      rintro e w4 ⟨rfl, hx4⟩
      go_wp2_with fail
      refine Calls.mono (impl_number (byL tl) _ (by have := Hs1.out.2; have := Hs2.out.2; rw [byL_size]; omega) (Ht.out.ext (by repeat (first | exact Ext.refl _ | assumption | refine Ext.alloc ?_ _ | refine Ext.drew ?_ | refine Ext.drewN ?_ _ | refine Ext.setCell ?_ (by first | (simp; done) | (simp; omega) | omega) _ | refine Ext.trans ?_ (by assumption)))) (Hsy.out.ext (by repeat (first | exact Ext.refl _ | assumption | refine Ext.alloc ?_ _ | refine Ext.drew ?_ | refine Ext.drewN ?_ _ | refine Ext.setCell ?_ (by first | (simp; done) | (simp; omega) | omega) _ | refine Ext.trans ?_ (by assumption)))) (Hra.out.ext (by repeat (first | exact Ext.refl _ | assumption | refine Ext.alloc ?_ _ | refine Ext.drew ?_ | refine Ext.drewN ?_ _ | refine Ext.setCell ?_ (by first | (simp; done) | (simp; omega) | omega) _ | refine Ext.trans ?_ (by assumption))))) ?_
      rintro e w5 ⟨rfl, hx5⟩
      generalize numB' (byL hd) = q3 at *
      generalize numB' (byL tl) = q4 at *
      generalize numV (byL hd) = a at *
      generalize numV (byL tl) = z at *
      cases q1 with
      | false =>
        have He := Lib.hid (Hbad.out (.inl rfl))
        go_wp2_with fail
        go_ret2
        rw [He.out.1, He.out.2]
        exact NewNspD.nil 6 (by repeat (first | exact Ext.refl _ | assumption | refine Ext.alloc ?_ _ | refine Ext.drew ?_ | refine Ext.drewN ?_ _ | refine Ext.setCell ?_ (by first | (simp; done) | (simp; omega) | omega) _ | refine Ext.trans ?_ (by assumption)))
      | true =>
        cases q2 with
        | false =>
          have He := Lib.hid (Hbad.out (.inr (.inl rfl)))
          go_wp2_with fail
          go_ret2
          rw [He.out.1, He.out.2]
          exact NewNspD.nil 6 (by repeat (first | exact Ext.refl _ | assumption | refine Ext.alloc ?_ _ | refine Ext.drew ?_ | refine Ext.drewN ?_ _ | refine Ext.setCell ?_ (by first | (simp; done) | (simp; omega) | omega) _ | refine Ext.trans ?_ (by assumption)))
        | true =>
          cases q3 with
          | false =>
            have He := Lib.hid (Hbad.out (.inr (.inr (.inl rfl))))
            go_wp2_with fail
            go_ret2
            rw [He.out.1, He.out.2]
            exact NewNspD.nil 6 (by repeat (first | exact Ext.refl _ | assumption | refine Ext.alloc ?_ _ | refine Ext.drew ?_ | refine Ext.drewN ?_ _ | refine Ext.setCell ?_ (by first | (simp; done) | (simp; omega) | omega) _ | refine Ext.trans ?_ (by assumption)))
          | true =>
            cases q4 with
            | false =>
              have He := Lib.hid (Hbad.out (.inr (.inr (.inr rfl))))
              go_wp2_with fail
              go_ret2
              rw [He.out.1, He.out.2]
              exact NewNspD.nil 6 (by repeat (first | exact Ext.refl _ | assumption | refine Ext.alloc ?_ _ | refine Ext.drew ?_ | refine Ext.drewN ?_ _ | refine Ext.setCell ?_ (by first | (simp; done) | (simp; omega) | omega) _ | refine Ext.trans ?_ (by assumption)))
            | true =>
              have Hn := Lib.hid (Hok.out rfl rfl rfl rfl)
              have Hxw := Lib.hid (show Ext w (w5.alloc (.cells #[.string (byL nm), .int .i64 a, .int .i64 z] 88)) from (by repeat (first | exact Ext.refl _ | assumption | refine Ext.alloc ?_ _ | refine Ext.drew ?_ | refine Ext.drewN ?_ _ | refine Ext.setCell ?_ (by first | (simp; done) | (simp; omega) | omega) _ | refine Ext.trans ?_ (by assumption))))
              have Hsrc : Hid (∀ W, Row (World.alloc W (.cells #[.string (byL nm), .int .i64 a, .int .i64 z] 88)) 0 (World.alloc W (.cells #[.string (byL nm), .int .i64 a, .int .i64 z] 88)).heap.size 3 (.slice (some ⟨W.heap.size, 0, none⟩) 1 1) 1 (nspCell [⟨byL nm, a, z⟩])) := Lib.hid (fun W => (Boxed.new W [.string (byL nm), .int .i64 a, .int .i64 z] 88).row rfl (fun i hi => by
                have hi : i < 3 := hi
                have h3 : i = 0 ∨ i = 1 ∨ i = 2 := by omega
                rcases h3 with rfl | rfl | rfl <;> rfl))
              clear hml
              have hml : ms.length ≤ 1048577 := by have := prIs_len Hq.out; rw [List.length_take] at this; omega
              have hzw : w1.heap.size ≤ w5.heap.size := (show Ext w1 w5 from (by repeat (first | exact Ext.refl _ | assumption | refine Ext.alloc ?_ _ | refine Ext.drew ?_ | refine Ext.drewN ?_ _ | refine Ext.setCell ?_ (by first | (simp; done) | (simp; omega) | omega) _ | refine Ext.trans ?_ (by assumption)))).size
              go_wp2_with (at_builtin; refine wpList_append_row _ rfl _ _ 24 rfl w1.heap.size 88 3 32 Tryz.underlying24 (by kernel_rfl) (by omega) _ ms.length 1 _ rfl (Hr.out.ext (by repeat (first | exact Ext.refl _ | assumption | refine Ext.alloc ?_ _ | refine Ext.drew ?_ | refine Ext.drewN ?_ _ | refine Ext.setCell ?_ (by first | (simp; done) | (simp; omega) | omega) _ | refine Ext.trans ?_ (by assumption)))).dst (.inr (by omega)) 0 _ _ (nspCell [⟨byL nm, a, z⟩]) rfl (Hsrc.out _) (fun i _ => nspCell_one _ i) (by unfold maxLen; omega) (by omega) (by simp; omega) ?_; intro v7 w7 hown7 hput7; have Hrow7 := Lib.hid (RowNsp.push hown7); have Hx8 := Lib.hid (hput7.ext (show Ext w1 _ from (by repeat (first | exact Ext.refl _ | assumption | refine Ext.alloc ?_ _ | refine Ext.drew ?_ | refine Ext.drewN ?_ _ | refine Ext.setCell ?_ (by first | (simp; done) | (simp; omega) | omega) _ | refine Ext.trans ?_ (by assumption)))) (Nat.le_refl _)); have Hx7 := Lib.hid (hxw1.trans Hx8.out); clear hown7 hput7)
              go_roundg (P.length - (j + 1))
              case measure => omega
              case rel => exact ⟨j + 1, ms ++ [⟨byL nm, a, z⟩], by omega, by go_num, Hx7.out, Hx8.out, Lib.hid (.inl Hrow7.out), Lib.hid (by rw [Htk.out]; exact Hn.out)⟩
    · obtain rfl : j = P.length := by omega
      have hq := Hq.out
      rw [List.take_length] at hq
      have hji : ¬ (P.length : Int) < (P.length : Int) := by omega
      have Hrd := Lib.hid hq
      have hmsl : ms.length ≤ 1048577 := by have := prIs_len hq; omega
      clear hml hq
      go_wp2_with fail
      refine Calls.mono (impl_AreMarks _ ms _ ((Hr.out.ext (by repeat (first | exact Ext.refl _ | assumption | refine Ext.alloc ?_ _ | refine Ext.drew ?_ | refine Ext.drewN ?_ _ | refine Ext.setCell ?_ (by first | (simp; done) | (simp; omega) | omega) _ | refine Ext.trans ?_ (by assumption)))).rows)) ?_
      rintro e w6 ⟨rfl, hx6⟩
      by_cases hok : MksOk ms
      · have Hy := Lib.hid (HY.out ms Hrd.out hok)
        rw [B_true hok]
        go_wp2_with fail
        go_ret2
        rw [Hy.out.1, Hy.out.2]
        exact NewNspD.ofD (by repeat (first | exact Ext.refl _ | assumption | refine Ext.alloc ?_ _ | refine Ext.drew ?_ | refine Ext.drewN ?_ _ | refine Ext.setCell ?_ (by first | (simp; done) | (simp; omega) | omega) _ | refine Ext.trans ?_ (by assumption))) hxw1.size (Hr.out.ext (by repeat (first | exact Ext.refl _ | assumption | refine Ext.alloc ?_ _ | refine Ext.drew ?_ | refine Ext.drewN ?_ _ | refine Ext.setCell ?_ (by first | (simp; done) | (simp; omega) | omega) _ | refine Ext.trans ?_ (by assumption))))
      · have Hy := Lib.hid (HN.out ms Hrd.out hok)
        rw [B_false hok]
        go_wp2_with fail
        go_ret2
        rw [Hy.out.1, Hy.out.2]
        exact NewNspD.nil 6 (by repeat (first | exact Ext.refl _ | assumption | refine Ext.alloc ?_ _ | refine Ext.drew ?_ | refine Ext.drewN ?_ _ | refine Ext.setCell ?_ (by first | (simp; done) | (simp; omega) | omega) _ | refine Ext.trans ?_ (by assumption)))
end Go.Proofs.YtbddkmlfjghllaaGreatDoor

/- Contract: the reference's ReadMarks. (Printed by genRM.py.) -/
namespace Go.Proofs.YtbddkmlfjghllaaGreatDoor
set_option linter.unusedVariables false
set_option linter.unusedSimpArgs false
open Go.RowKit
attribute [local go_sem] cell_onto

/-- the first and the last of a text's pieces -/
theorem strs_ends {w : World} {lo : Nat} {A : Option Addr} {n c : Nat} {l : List Bs} (h : Strs w lo w.heap.size (.slice A n c) (l.map byL)) (hl : l ≠ []) :
    ∃ t b o, (l.map byL).length = t + 1 ∧ l.length = t + 1 ∧ A = some ⟨b, o, none⟩ ∧ lo ≤ b ∧ b < w.heap.size ∧ w.cell? ⟨b, o, none⟩ = some (.string (byL (l.getD 0 []))) ∧ w.cell? ⟨b, o + t, none⟩ = some (.string (byL (lastL l))) := by
  have hp : 0 < l.length := List.length_pos_iff.2 hl
  obtain ⟨b, o, rfl, h1, h2, h3⟩ := h.at_ (i := 0) (by rw [List.length_map]; exact hp)
  obtain ⟨b', o', e, _, _, h4⟩ := h.at_ (i := l.length - 1) (by rw [List.length_map]; omega)
  injection e with e
  injection e with e1 e2
  subst e1 e2
  rw [strAt_map] at h3 h4
  refine ⟨l.length - 1, b, o, by rw [List.length_map]; omega, by omega, rfl, h1, h2, ?_, ?_⟩
  · simpa using h3
  · unfold lastL
    simpa using h4
set_option maxRecDepth 100000 in
set_option maxHeartbeats 16000000 in
theorem spec_ReadMarks (s : ByteArray) (w : World) (hs : s.size ≤ 1048576) : Calls Tryz.prog 31 #[.string s] w (NewNspD (rmL s.data.toList) (rmE s.data.toList) w) := by
  by_cases hd : s = ⟨#[45]⟩
  · have h1 := rm_dash
    rw [← (dash_is s).1 hd] at h1
    have Hd := Lib.hid h1
    have T : (s.toList == [45]) = true := by rw [beq_iff_eq, toList_data]; exact (dash_is s).1 hd
    clear h1
    go_enter Tryz.func31, Tryz.ntmps31
    go_wp2_with fail
    go_ret2
    rw [Hd.out.1, Hd.out.2]
    exact NewNspD.ofD (by repeat (first | exact Ext.refl _ | assumption | refine Ext.alloc ?_ _ | refine Ext.drew ?_ | refine Ext.drewN ?_ _ | refine Ext.setCell ?_ (by first | (simp; done) | (simp; omega) | omega) _ | refine Ext.trans ?_ (by assumption))) (Nat.le_refl _) (DNsp.made w _ 88 w.heap.size (by repeat (first | exact Ext.refl _ | assumption | refine Ext.alloc ?_ _ | refine Ext.drew ?_ | refine Ext.drewN ?_ _ | refine Ext.setCell ?_ (by first | (simp; done) | (simp; omega) | omega) _ | refine Ext.trans ?_ (by assumption))))
  have hne : s.data.toList ≠ [45] := fun h => hd ((dash_is s).2 h)
  have Hne := Lib.hid hne
  have T : (s.toList == [45]) = false := by rw [beq_eq_false_iff_ne, toList_data]; exact hne
  have HY := Lib.hid (fun (h2 : MksOk ((splL 44 s.data.toList).map prS)) (h3 : txL ((splL 44 s.data.toList).map prS) = s.data.toList) => rm_yes hne (rd_same.2 ⟨rfl, h2, h3⟩))
  have HN := Lib.hid (fun (h2 : ¬ (MksOk ((splL 44 s.data.toList).map prS) ∧ txL ((splL 44 s.data.toList).map prS) = s.data.toList)) => rm_no hne (fun k hk => h2 (by obtain ⟨h3, h4, h5⟩ := rd_same.1 hk; rw [h3]; exact ⟨h4, h5⟩)))
  clear hne hd
  go_enter Tryz.func31, Tryz.ntmps31
  go_wp2_with fail
  refine Calls.mono (spec_l01Split s 44 _ hs) ?_
  rintro e w1 ⟨A, c, rfl, hx1, hp0⟩
  have hp := Strs.mono hp0 (Nat.zero_le _) (Nat.le_refl _)
  have Hp := Lib.hid hp
  clear hp0
  have Hsz := Lib.hid (splL_sz 44 s.data.toList)
  have Hlen := Lib.hid (show (splL 44 s.data.toList).length ≤ 1048577 from by have := splL_len 44 s.data.toList; simp at this; omega)
  have hcap := Strs.cap hp
  have hxw1 : Ext w w1 := (by repeat (first | exact Ext.refl _ | assumption | refine Ext.alloc ?_ _ | refine Ext.drew ?_ | refine Ext.drewN ?_ _ | refine Ext.setCell ?_ (by first | (simp; done) | (simp; omega) | omega) _ | refine Ext.trans ?_ (by assumption)))
  clear hp
  have Hss := Lib.hid (show s.data.toList.length ≤ 1048576 from by simpa using hs)
  generalize splL 44 s.data.toList = P at *
  have hPl : (P.map byL).length = P.length := by simp
  rw [hPl] at hcap Hp ⊢
  have hlen := Hlen.out
  go_wp2_with fail
  go_loopg [5, 6, 7, 8] P.length (fun q u5 u6 u7 u8 wr => ∃ (j : Nat), j + q = P.length ∧ u6 = .int .i64 j ∧ Ext w wr ∧ Ext w1 wr ∧ Hid (DNsp wr w1.heap.size 88 u5 ((P.take j).map prS)))
  case atStart => exact ⟨0, by omega, rfl, (by repeat (first | exact Ext.refl _ | assumption | refine Ext.alloc ?_ _ | refine Ext.drew ?_ | refine Ext.drewN ?_ _ | refine Ext.setCell ?_ (by first | (simp; done) | (simp; omega) | omega) _ | refine Ext.trans ?_ (by assumption))), (by repeat (first | exact Ext.refl _ | assumption | refine Ext.alloc ?_ _ | refine Ext.drew ?_ | refine Ext.drewN ?_ _ | refine Ext.setCell ?_ (by first | (simp; done) | (simp; omega) | omega) _ | refine Ext.trans ?_ (by assumption))), Lib.hid (DNsp.made w1 _ 88 w1.heap.size (by repeat (first | exact Ext.refl _ | assumption | refine Ext.alloc ?_ _ | refine Ext.drew ?_ | refine Ext.drewN ?_ _ | refine Ext.setCell ?_ (by first | (simp; done) | (simp; omega) | omega) _ | refine Ext.trans ?_ (by assumption))))⟩
  case round =>
    obtain ⟨j, hj, rfl, hx, hxp, Hr0⟩ := hrel
    obtain ⟨ms, hms⟩ : ∃ ms, (P.take j).map prS = ms := ⟨_, rfl⟩
    have hml : ms.length = j := by rw [← hms]; simp; omega
    rw [hms] at Hr0
    have Hr := Hr0
    clear Hr0
    have Hms := Lib.hid hms
    clear hms
    have Hml := Lib.hid hml
    obtain ⟨A5, c5, rfl⟩ := Hr.out.len
    have hz := hx.size
    by_cases hlt : j < P.length
    · obtain ⟨b, off, rfl, _, hb, h1⟩ := (Hp.out.ext hxp (Nat.le_refl _)).at_ (i := j) (by rw [hPl]; exact hlt)
      rw [map_getD P hlt] at h1
      have hbr : b < wr.heap.size := Nat.lt_of_lt_of_le hb hxp.size
      have hj0 : (0 : Int) ≤ (j : Int) := by omega
      have hji : (j : Int) < (P.length : Int) := by omega
      have hsz : P[j].length ≤ 1048576 := Nat.le_trans (Hsz.out _ (List.getElem_mem hlt)) Hss.out
      have Hm := Lib.hid (show (P.take (j + 1)).map prS = ms ++ [prS P[j]] from by rw [List.take_succ_eq_append_getElem hlt, List.map_append, Hms.out]; rfl)
      have hown : ∀ g, (Value.slice A5 ms.length c5).ownBlock = some g → g < wr.heap.size := Hr.out.dst.lt
      have Hown := Lib.hid hown
      have hml2 : ms.length ≤ 1048577 := by omega
      clear hown hml
      generalize P[j] = p at *
      try simp only [Nat.mul_one] at h1
      go_wp2_with fail
      refine Calls.mono (spec_l01Split (byL p) 58 _ (by rw [byL_size]; exact hsz)) ?_
      rintro e w2 ⟨A2, c2, rfl, hx2, h2⟩
      rw [byL_list] at h2 ⊢
      have hsl := lastL_sz 58 p
      obtain ⟨t, b2, o2, e1, e1', rfl, hlo2, hb2, z0, zl⟩ := strs_ends h2 (splL_ne 58 p)
      have hc2 := Strs.cap h2
      have hlen2 := splL_len 58 p
      clear h2
      rw [e1] at hc2 ⊢
      rw [e1'] at hlen2
      have Hpr := Lib.hid (show prS p = ⟨byL ((splL 58 p).getD 0 []), plnN ((splL 46 (lastL (splL 58 p))).getD 0 []), plnN (lastL (splL 46 (lastL (splL 58 p))))⟩ from rfl)
      generalize (splL 58 p).getD 0 [] = x0 at *
      generalize lastL (splL 58 p) = xl at *
      clear e1 e1'
      have Wt : IntKind.i64.wrap ((t : Int) + 1 - 1) = (t : Int) := by rw [IntWalk.i64_in _ (by omega)]; omega
      have Wt2 : IntKind.i64.wrap (t : Int) = (t : Int) := IntWalk.i64_in _ (by omega)
      have q0 : (0 : Int) ≤ (t : Int) := by omega
      have q1 : (t : Int) < (t : Int) + 1 := by omega
      go_wp2_with fail
      refine Calls.mono (spec_l01Split (byL xl) 46 _ (by rw [byL_size]; omega)) ?_
      rintro e w3 ⟨A3, c3, rfl, hx3, h3⟩
      rw [byL_list] at h3 ⊢
      have hs0 := getD_sz 46 xl 0
      have hsl2 := lastL_sz 46 xl
      obtain ⟨d, b3, o3, e1, e1', rfl, hlo3, hb3, y0, yl⟩ := strs_ends h3 (splL_ne 46 xl)
      have hc3 := Strs.cap h3
      have hlen3 := splL_len 46 xl
      clear h3
      rw [e1] at hc3 ⊢
      rw [e1'] at hlen3
      generalize (splL 46 xl).getD 0 [] = d0 at *
      generalize lastL (splL 46 xl) = dl at *
      clear e1 e1'
      have Wd : IntKind.i64.wrap ((d : Int) + 1 - 1) = (d : Int) := by rw [IntWalk.i64_in _ (by omega)]; omega
      have Wd2 : IntKind.i64.wrap (d : Int) = (d : Int) := IntWalk.i64_in _ (by omega)
      have q2 : (0 : Int) ≤ (d : Int) := by omega
      have q3 : (d : Int) < (d : Int) + 1 := by omega
      have z0' := (hx3.cell (p := ⟨b2, o2, none⟩) (by simpa using hb2)).trans z0
      have hx13 : Ext wr w3 := (by repeat (first | exact Ext.refl _ | assumption | refine Ext.alloc ?_ _ | refine Ext.drew ?_ | refine Ext.drewN ?_ _ | refine Ext.setCell ?_ (by first | (simp; done) | (simp; omega) | omega) _ | refine Ext.trans ?_ (by assumption)))
      have hz3 := hx13.size
      have hb2w : b2 < w3.heap.size := Nat.lt_of_lt_of_le hb2 hx3.size
      have hg2 : wr.heap.size ≤ b2 := by simpa using hlo2
      have hg3 : wr.heap.size ≤ b3 := by
        have h8 : wr.heap.size ≤ w2.heap.size := (show Ext wr w2 from (by repeat (first | exact Ext.refl _ | assumption | refine Ext.alloc ?_ _ | refine Ext.drew ?_ | refine Ext.drewN ?_ _ | refine Ext.setCell ?_ (by first | (simp; done) | (simp; omega) | omega) _ | refine Ext.trans ?_ (by assumption)))).size
        have h9 : w2.heap.size ≤ b3 := by simpa using hlo3
        omega
      have Hxr := Lib.hid (show Ext w1 w3 from (by repeat (first | exact Ext.refl _ | assumption | refine Ext.alloc ?_ _ | refine Ext.drew ?_ | refine Ext.drewN ?_ _ | refine Ext.setCell ?_ (by first | (simp; done) | (simp; omega) | omega) _ | refine Ext.trans ?_ (by assumption))))
      have Hr3 := Lib.hid (Hr.out.ext hx13)
      have hr3 := Hxr.out
      have hz13 := hr3.size
      have Hsrc : Hid (∀ W, Row (World.alloc W (.cells #[.string (byL x0), .int .i64 (plnN d0), .int .i64 (plnN dl)] 88)) 0 (World.alloc W (.cells #[.string (byL x0), .int .i64 (plnN d0), .int .i64 (plnN dl)] 88)).heap.size 3 (.slice (some ⟨W.heap.size, 0, none⟩) 1 1) 1 (nspCell [⟨byL x0, plnN d0, plnN dl⟩])) := Lib.hid (fun W => (Boxed.new W [.string (byL x0), .int .i64 (plnN d0), .int .i64 (plnN dl)] 88).row rfl (fun i hi => by
        have hi : i < 3 := hi
        have h3 : i = 0 ∨ i = 1 ∨ i = 2 := by omega
        rcases h3 with rfl | rfl | rfl <;> rfl))
      clear hx hxp hx2 hx3 h1 hbr hb z0 zl hlo2 hlo3 hx1
      go_upto_region 10 with fail
      go_region_held3 (fun w' => w'.cell? ⟨b2, o2, none⟩ = some (.string (byL x0)) ∧ w'.cell? ⟨b3, o3, none⟩ = some (.string (byL d0)) ∧ w'.cell? ⟨b3, o3 + d, none⟩ = some (.string (byL dl)) ∧ Ext w1 w')
        (first
          | (refine Ext.and_cell hb2w z0' ?_ (Ext.and_cell hb3 y0 ?_ (Ext.and_cell hb3 yl ?_ ?_)) <;> ((repeat (first | exact Ext.refl _ | assumption | refine Ext.alloc ?_ _ | refine Ext.drew ?_ | refine Ext.drewN ?_ _ | refine Ext.setCell ?_ (by first | (simp; done) | (simp; omega) | omega) _ | refine Ext.trans ?_ (by assumption))); done))
          | exact ⟨hk1, hk2, hk3, hx6⟩)
        ((first
          | (go_at_call 87; first
              | (with_reducible refine Calls.mono (spec_l01Plain (byL d0) _ (by rw [byL_size]; omega)) ?_); rw [byL_list]; rintro e w5 ⟨rfl, hx5⟩; have hz5 := hx5.size; (try simp at hz5)
              | (with_reducible refine Calls.mono (spec_l01Plain (byL dl) _ (by rw [byL_size]; omega)) ?_); rw [byL_list]; rintro e w5 ⟨rfl, hx5⟩; have hz5 := hx5.size; (try simp at hz5))
          | (refine step_append_row rfl (.tmp 33) (.tmp 49) 24 rfl w1.heap.size 88 3 32 Tryz.underlying24 (by kernel_rfl) (by omega) _ ms.length 1 _ rfl (Hr3.out.ext (by repeat (first | exact Ext.refl _ | assumption | refine Ext.alloc ?_ _ | refine Ext.drew ?_ | refine Ext.drewN ?_ _ | refine Ext.setCell ?_ (by first | (simp; done) | (simp; omega) | omega) _ | refine Ext.trans ?_ (by assumption)))).dst (.inr (by omega)) 0 _ _ (nspCell [⟨byL x0, plnN d0, plnN dl⟩]) rfl (Hsrc.out _) (fun i _ => nspCell_one _ i) (by unfold maxLen; omega) (by omega) (by simp; omega) ?_; intro v6 w6 hown6 hput6; have Hrow6 := Lib.hid (RowNsp.push hown6); have hx6 := hput6.ext (show Ext w1 _ from (by repeat (first | exact Ext.refl _ | assumption | refine Ext.alloc ?_ _ | refine Ext.drew ?_ | refine Ext.drewN ?_ _ | refine Ext.setCell ?_ (by first | (simp; done) | (simp; omega) | omega) _ | refine Ext.trans ?_ (by assumption)))) (Nat.le_refl _); have hk1 := (hput6.1.cell (p := ⟨b2, o2, none⟩) (by simp; omega) (fun hh => by have h9 : b2 < wr.heap.size := Hown.out _ hh.2.2; omega)).trans ((Ext.cell (show Ext w3 _ from (by repeat (first | exact Ext.refl _ | assumption | refine Ext.alloc ?_ _ | refine Ext.drew ?_ | refine Ext.drewN ?_ _ | refine Ext.setCell ?_ (by first | (simp; done) | (simp; omega) | omega) _ | refine Ext.trans ?_ (by assumption)))) (p := ⟨b2, o2, none⟩) hb2w).trans z0'); have hk2 := (hput6.1.cell (p := ⟨b3, o3, none⟩) (by simp; omega) (fun hh => by have h9 : b3 < wr.heap.size := Hown.out _ hh.2.2; omega)).trans ((Ext.cell (show Ext w3 _ from (by repeat (first | exact Ext.refl _ | assumption | refine Ext.alloc ?_ _ | refine Ext.drew ?_ | refine Ext.drewN ?_ _ | refine Ext.setCell ?_ (by first | (simp; done) | (simp; omega) | omega) _ | refine Ext.trans ?_ (by assumption)))) (p := ⟨b3, o3, none⟩) hb3).trans y0); have hk3 := (hput6.1.cell (p := ⟨b3, o3 + d, none⟩) (by simp; omega) (fun hh => by have h9 : b3 < wr.heap.size := Hown.out _ hh.2.2; omega)).trans ((Ext.cell (show Ext w3 _ from (by repeat (first | exact Ext.refl _ | assumption | refine Ext.alloc ?_ _ | refine Ext.drew ?_ | refine Ext.drewN ?_ _ | refine Ext.setCell ?_ (by first | (simp; done) | (simp; omega) | omega) _ | refine Ext.trans ?_ (by assumption)))) (p := ⟨b3, o3 + d, none⟩) hb3).trans yl); clear hown6 hput6)))
      all_goals
        go_wp2_with fail
        go_roundg (P.length - (j + 1))
        case measure => omega
        case rel => exact ⟨j + 1, by omega, by go_num, hxw1.trans hx6, hx6, Lib.hid (by rw [Hm.out, Hpr.out]; exact .inl Hrow6.out)⟩
    · obtain rfl : j = P.length := by omega
      have hji : ¬ (P.length : Int) < (P.length : Int) := by omega
      have hmP := Hms.out
      rw [List.take_length] at hmP
      have HmP := Lib.hid hmP
      have Hsm := Lib.hid (show NSm ms from fun i hi => by
        rw [← hmP] at hi ⊢
        rw [List.length_map] at hi
        have e9 : nspAt (P.map prS) i = prS P[i] := by
          unfold nspAt
          rw [List.getD_eq_getElem?_getD, List.getElem?_map, List.getElem?_eq_getElem hi]
          rfl
        rw [e9]
        show (byL ((splL 58 P[i]).getD 0 [])).size ≤ _
        rw [byL_size]
        have := getD_sz 58 P[i] 0
        have := Hsz.out _ (List.getElem_mem hi)
        have := Hss.out
        omega)
      clear hml hmP
      go_wp2_with fail
      refine Calls.mono (spec_AreMarks _ ms _ ((Hr.out.ext (by repeat (first | exact Ext.refl _ | assumption | refine Ext.alloc ?_ _ | refine Ext.drew ?_ | refine Ext.drewN ?_ _ | refine Ext.setCell ?_ (by first | (simp; done) | (simp; omega) | omega) _ | refine Ext.trans ?_ (by assumption)))).rows) Hsm.out) ?_
      rintro e w6 ⟨rfl, hx6⟩
      by_cases hok : MksOk ms
      · rw [B_true hok]
        go_wp2_with fail
        refine Calls.mono (spec_l16Text _ ms _ ((Hr.out.ext (by repeat (first | exact Ext.refl _ | assumption | refine Ext.alloc ?_ _ | refine Ext.drew ?_ | refine Ext.drewN ?_ _ | refine Ext.setCell ?_ (by first | (simp; done) | (simp; omega) | omega) _ | refine Ext.trans ?_ (by assumption)))).rows) hok) ?_
        rintro e w7 ⟨rfl, hx7⟩
        by_cases ht : txL ms = s.data.toList
        · have Hy := Lib.hid (HY.out (by rw [HmP.out]; exact hok) (by rw [HmP.out]; exact ht))
          rw [HmP.out] at Hy
          have hb : byL (txL ms) = s := by rw [ht]; exact byL_data s
          rw [hb]
          have T9 := str_same s
          go_wp2_with fail
          go_ret2
          rw [Hy.out.1, Hy.out.2]
          exact NewNspD.ofD (by repeat (first | exact Ext.refl _ | assumption | refine Ext.alloc ?_ _ | refine Ext.drew ?_ | refine Ext.drewN ?_ _ | refine Ext.setCell ?_ (by first | (simp; done) | (simp; omega) | omega) _ | refine Ext.trans ?_ (by assumption))) hxw1.size (Hr.out.ext (by repeat (first | exact Ext.refl _ | assumption | refine Ext.alloc ?_ _ | refine Ext.drew ?_ | refine Ext.drewN ?_ _ | refine Ext.setCell ?_ (by first | (simp; done) | (simp; omega) | omega) _ | refine Ext.trans ?_ (by assumption))))
        · have Hy := Lib.hid (HN.out (by rw [HmP.out]; exact fun h => ht h.2))
          have T9 := str_ne (show byL (txL ms) ≠ s from fun h => ht (by rw [← h, byL_list]))
          generalize byL (txL ms) = tt at *
          go_wp2_with fail
          go_ret2
          rw [Hy.out.1, Hy.out.2]
          exact NewNspD.nil 6 (by repeat (first | exact Ext.refl _ | assumption | refine Ext.alloc ?_ _ | refine Ext.drew ?_ | refine Ext.drewN ?_ _ | refine Ext.setCell ?_ (by first | (simp; done) | (simp; omega) | omega) _ | refine Ext.trans ?_ (by assumption)))
      · have Hy := Lib.hid (HN.out (by rw [HmP.out]; exact fun h => hok h.1))
        rw [B_false hok]
        go_wp2_with fail
        go_ret2
        rw [Hy.out.1, Hy.out.2]
        exact NewNspD.nil 6 (by repeat (first | exact Ext.refl _ | assumption | refine Ext.alloc ?_ _ | refine Ext.drew ?_ | refine Ext.drewN ?_ _ | refine Ext.setCell ?_ (by first | (simp; done) | (simp; omega) | omega) _ | refine Ext.trans ?_ (by assumption)))
end Go.Proofs.YtbddkmlfjghllaaGreatDoor
