/- Contracts: what the reading of marks asks of the library (strings.Split, strings.Cut, strconv.ParseInt), and 'number'. -/
import Derived.Test.YtbddkmlfjghllaaGreatDoorT1Jp
import Derived.Test.YtbddkmlfjghllaaGreatDoorT1Jd
import Derived.Test.YtbddkmlfjghllaaGreatDoorT1Te
import Derived.Test.YtbddkmlfjghllaaGreatDoorLaS
import Derived.Test.YtbddkmlfjghllaaGreatDoorLaC
import Derived.Test.YtbddkmlfjghllaaGreatDoorLaP
import Derived.Lib.SmallJoins
namespace Go.Proofs.YtbddkmlfjghllaaGreatDoor
set_option linter.unusedVariables false
set_option linter.unusedSimpArgs false
open Go.RowKit
attribute [local go_sem] cell_onto

/-! ### Variables of the library -/
/-- the byte search's own number lies in the world -/
def MaxW (w : World) : Prop := ∃ m : Int, w.cell? ⟨0, 0, none⟩ = some (.int .i64 m)
theorem MaxW.ext {w w' : World} (h : MaxW w) (hx : Ext w w') : MaxW w' := by
  obtain ⟨m, hm⟩ := h
  exact ⟨m, by rw [hx.cell (World.block_lt_of_cell? _ _ hm)]; exact hm⟩
theorem MaxW.of {w : World} (h : w.ShapedOpen Tryz.prog) : MaxW w := Tryz.cutL.s1_3 w h
/-- a variable that holds an error -/
def ErrW (g : Nat) (w : World) : Prop := ∃ ev, w.cell? ⟨g, 0, none⟩ = some ev ∧ (ev = .nilIface ∨ ∃ te pe, ev = .iface te pe)
theorem ErrW.ext {g : Nat} {w w' : World} (h : ErrW g w) (hx : Ext w w') : ErrW g w' := by
  obtain ⟨m, hm, h2⟩ := h
  exact ⟨m, by rw [hx.cell (World.block_lt_of_cell? _ _ hm)]; exact hm, h2⟩

/-! ### strings.Cut -/
theorem strings_Cut_b (s sep : ByteArray) (w : World) (hm : MaxW w) (hs : s.size ≤ 1048576) :
    Calls Tryz.prog 84 #[.string s, .string sep] w (RetX (.tuple #[.string (byL (Lib.cut s.data.toList sep.data.toList).1), .string (byL (Lib.cut s.data.toList sep.data.toList).2.1), .bool (Lib.cut s.data.toList sep.data.toList).2.2]) w) := by
  obtain ⟨m, hm⟩ := hm
  refine Calls.mono (Go.Proofs.Any.strings_Cut { Tryz.cutL with } s sep m w (by omega) hm) ?_
  rintro e w1 ⟨rfl, n, rfl⟩
  exact ⟨rfl, (Ext.refl w).drewN n⟩

/-! ### strings.Split at one byte -/
theorem splitB_map (c : UInt8) (s : ByteArray) : Lib.splitB ⟨#[c]⟩ 0 (Lib.countB s ⟨#[c]⟩) s = (splL c s.data.toList).map byL := by
  have h := Lib.splitB_data ⟨#[c]⟩ 0 (Lib.countB s ⟨#[c]⟩) s
  have h2 := split_splL c s.data.toList
  have h3 : Lib.splitK [c] 0 (Lib.countB s ⟨#[c]⟩) s.data.toList = splL c s.data.toList := h2
  rw [← h3]
  have h4 : (Lib.splitB ⟨#[c]⟩ 0 (Lib.countB s ⟨#[c]⟩) s).map (·.data.toList) = Lib.splitK [c] 0 (Lib.countB s ⟨#[c]⟩) s.data.toList := h
  rw [← h4, List.map_map]
  have : (byL ∘ fun x : ByteArray => x.data.toList) = id := funext fun x => byL_data x
  rw [this, List.map_id]
theorem strAt_map (l : List Bs) (i : Nat) : strAt (l.map byL) i = byL (l.getD i []) := by
  unfold strAt
  rw [List.getD_eq_getElem?_getD, List.getD_eq_getElem?_getD, List.getElem?_map]
  cases l[i]? <;> rfl
/-- a new block of strings -/
def StrsNew (l : List ByteArray) (w : World) (e : Ending) (w' : World) : Prop := ∃ A c, e = .returned (.slice A l.length c) ∧ Ext w w' ∧ Strs w' w.heap.size w'.heap.size (.slice A l.length c) l
theorem strs_made (w : World) (T : TypeId) (l : List ByteArray) (hn : l.length ≤ maxLen) : Strs (w.alloc (.cells (l.map Value.string).toArray T)) w.heap.size (w.alloc (.cells (l.map Value.string).toArray T)).heap.size (.slice (some ⟨w.heap.size, 0, none⟩) l.length l.length) l := by
  refine ⟨hn, _, _, rfl, Nat.le_refl _, fun h0 => ⟨w.heap.size, 0, rfl, Nat.le_refl _, by rw [World.size_alloc]; omega, fun i hi => ?_⟩⟩
  have hi' : i < l.length := by omega
  rw [Nat.zero_add, World.cell?_alloc_new]
  unfold strCell strAt
  rw [List.getD_eq_getElem?_getD]
  simp [hi']
theorem strings_Split_b (s : ByteArray) (c : UInt8) (w : World) (hm : MaxW w) (hs : s.size ≤ 1048576) :
    Calls Tryz.prog 83 #[.string s, .string ⟨#[c]⟩] w (StrsNew ((splL c s.data.toList).map byL) w) := by
  obtain ⟨m, hm⟩ := hm
  have h1 : 1 ≤ (⟨#[c]⟩ : ByteArray).size := Nat.le_refl 1
  refine Calls.mono (Go.Proofs.Any.strings_Split { Tryz.splitL with } Tryz.splitL.i9 s ⟨#[c]⟩ m w (by omega) hm h1) ?_
  rintro e w1 ⟨rfl, rfl⟩
  have hlen := Lib.splitB_all ⟨#[c]⟩ h1 0 _ s rfl
  have hle := Lib.countB_le ⟨#[c]⟩ h1 s.size s (Nat.le_refl _)
  rw [splitB_map] at hlen ⊢
  rw [← hlen]
  exact ⟨_, _, rfl, (Ext.refl w).alloc _, strs_made w _ _ (by rw [hlen]; unfold maxLen; omega)⟩

/-! ### number -/
theorem parse_bound {l : Bs} {v : Int} (h : Lib.parseIntB 64 l = .ok v) : -9223372036854775808 ≤ v ∧ v ≤ 9223372036854775807 := by
  unfold Lib.parseIntB at h
  split at h
  · cases h
  · simp only at h
    split at h
    · cases h
    · cases h
    · rename_i u _
      split at h
      · cases h
      · rename_i h1
        split at h
        · cases h
        · rename_i h2
          injection h with h
          subst h
          split
          · rename_i hn
            have : ¬ 2 ^ (64 - 1) < u := fun hh => h2 ⟨hn, hh⟩
            omega
          · rename_i hn
            have : ¬ 2 ^ (64 - 1) ≤ u := fun hh => h1 ⟨hn, hh⟩
            omega
noncomputable def numV (s : ByteArray) : Int := (((numO s.data.toList).getD 0 : Nat) : Int)
noncomputable def numB' (s : ByteArray) : Bool := (numO s.data.toList).isSome
theorem num_no {s : ByteArray} (h : numO s.data.toList = none) : numV s = 0 ∧ numB' s = false := by
  unfold numV numB'
  rw [h]
  exact ⟨rfl, rfl⟩
theorem num_ok {s : ByteArray} {n : Nat} (h : numO s.data.toList = some n) : numV s = n ∧ numB' s = true := by
  unfold numV numB'
  rw [h]
  exact ⟨rfl, rfl⟩
theorem numO_bad {l : Bs} (h : ∀ n : Nat, Lib.parseIntB 64 l ≠ .ok (n : Int)) : numO l = none := by
  cases e : numO l with
  | none => rfl
  | some n =>
    obtain ⟨h1, rfl⟩ := numO_some e
    exact absurd (parse_dec h1) (h n)
theorem decB_data (n : Nat) : (decB n).data.toList = Lib.decDigits n := rfl
set_option maxRecDepth 100000 in
set_option maxHeartbeats 2000000 in
theorem impl_decimal_w (x : Int) (w : World) (h0 : -9223372036854775808 ≤ x) (h1 : x ≤ 9223372036854775807) (ht : TabW w) : Calls Tryz.prog 130 #[.int .i64 x] w (RetX (.string (numB x)) w) := by
  have Ht := Lib.hid ht
  clear ht
  go_enter Tryz.func130, Tryz.ntmps130
  go_wp2_with fail
  refine Calls.mono (Go.Proofs.Any.strconv_FormatInt_10 Tryz.fmtInt x (by omega) (by omega) _ Ht.out) ?_
  rintro e w1 ⟨rfl, k, os, rfl⟩
  rw [itoa_numB]
  have hx1 : Ext w (Go.Sort.grow (w.drewN k) os) := ((Ext.refl w).drewN k).growF os
  go_wp2_with fail
  go_ret
  exact ⟨rfl, hx1⟩
set_option maxRecDepth 100000 in
set_option maxHeartbeats 4000000 in
theorem impl_number (s : ByteArray) (w : World) (hs : s.size ≤ 1048576) (ht : TabW w) (hsy : ErrW 1 w) (hra : ErrW 2 w) : Calls Tryz.prog 85 #[.string s] w (RetX (.tuple #[.int .i64 (numV s), .bool (numB' s)]) w) := by
  have Ht := Lib.hid ht
  have Hsy := Lib.hid hsy
  have Hra := Lib.hid hra
  clear ht hsy hra
  cases hp : Lib.parseIntB 64 s.data.toList with
  | «syntax» =>
    obtain ⟨n1, n2⟩ := num_no (numO_bad (fun n e => by rw [hp] at e; cases e))
    rw [n1, n2]
    clear n1 n2
    obtain ⟨ev, hv, hev⟩ := Hsy.out
    have H := Lib.hid (Go.Proofs.Any.strconv_ParseInt_10_at64_syntax Tryz.parseL s (by omega) hp ev w hv hev)
    clear hp hv hev
    go_enter Tryz.func85, Tryz.ntmps85
    go_wp2_with fail
    refine Calls.mono H.out ?_
    rintro e w1 ⟨N, rfl, hN, hc, hx⟩
    have hx1 : Ext w w1 := hx
    clear hx hc
    go_wp2_with fail
    go_ret2
    exact ⟨rfl, (by repeat (first | exact Ext.refl _ | assumption | refine Ext.alloc ?_ _ | refine Ext.drew ?_ | refine Ext.drewN ?_ _ | refine Ext.setCell ?_ (by first | (simp; done) | (simp; omega) | omega) _ | refine Ext.trans ?_ (by assumption)))⟩
  | range =>
    obtain ⟨n1, n2⟩ := num_no (numO_bad (fun n e => by rw [hp] at e; cases e))
    rw [n1, n2]
    clear n1 n2
    obtain ⟨ev, hv, hev⟩ := Hra.out
    have H := Lib.hid (Go.Proofs.Any.strconv_ParseInt_10_at64_range Tryz.parseL s (by omega) hp ev w hv hev)
    clear hp hv hev
    generalize Lib.intSat 64 s.data.toList = sat at H
    go_enter Tryz.func85, Tryz.ntmps85
    go_wp2_with fail
    refine Calls.mono H.out ?_
    rintro e w1 ⟨N, rfl, hN, hc, hx⟩
    have hx1 : Ext w w1 := hx
    clear hx hc
    go_wp2_with fail
    go_ret2
    exact ⟨rfl, (by repeat (first | exact Ext.refl _ | assumption | refine Ext.alloc ?_ _ | refine Ext.drew ?_ | refine Ext.drewN ?_ _ | refine Ext.setCell ?_ (by first | (simp; done) | (simp; omega) | omega) _ | refine Ext.trans ?_ (by assumption)))⟩
  | ok v =>
    have hb := parse_bound hp
    have H := Lib.hid (Go.Proofs.Any.strconv_ParseInt_10_at64_ok Tryz.parseL s (by omega) v hp w)
    by_cases hneg : v < 0
    · obtain ⟨n1, n2⟩ := num_no (numO_bad (fun n e => by rw [hp] at e; injection e with e; omega))
      rw [n1, n2]
      clear n1 n2 hp hb
      go_enter Tryz.func85, Tryz.ntmps85
      go_wp2_with fail
      refine Calls.mono H.out ?_
      rintro e w1 ⟨rfl, hx⟩
      have hx1 : Ext w w1 := by
        rcases hx with rfl | ⟨t, rfl⟩
        · exact Ext.refl _
        · exact Go.Joins.below_bytesWorld _ _ _ _ (Nat.le_refl _)
      clear hx
      go_wp2_with fail
      go_ret2
      exact ⟨rfl, (by repeat (first | exact Ext.refl _ | assumption | refine Ext.alloc ?_ _ | refine Ext.drew ?_ | refine Ext.drewN ?_ _ | refine Ext.setCell ?_ (by first | (simp; done) | (simp; omega) | omega) _ | refine Ext.trans ?_ (by assumption)))⟩
    · have hnn : 0 ≤ v := by omega
      by_cases hsd : s = decB v.toNat
      · have hv : ((v.toNat : Nat) : Int) = v := by omega
        obtain ⟨n1, n2⟩ := num_ok (s := s) (n := v.toNat) (by rw [hsd, decB_data]; exact numO_dec (by omega))
        rw [n1, n2, hv]
        have hnb : numB v = s := by rw [numB_pos hneg, hsd]
        have Hnb := Lib.hid hnb
        have hss := str_same s
        clear n1 n2 hp hv hsd hnb
        go_enter Tryz.func85, Tryz.ntmps85
        go_wp2_with fail
        refine Calls.mono H.out ?_
        rintro e w1 ⟨rfl, hx⟩
        have hx1 : Ext w w1 := by
          rcases hx with rfl | ⟨t, rfl⟩
          · exact Ext.refl _
          · exact Go.Joins.below_bytesWorld _ _ _ _ (Nat.le_refl _)
        clear hx
        go_wp2_with fail
        refine Calls.mono (impl_decimal_w v _ hb.1 hb.2 (Ht.out.ext (by repeat (first | exact Ext.refl _ | assumption | refine Ext.alloc ?_ _ | refine Ext.drew ?_ | refine Ext.drewN ?_ _ | refine Ext.setCell ?_ (by first | (simp; done) | (simp; omega) | omega) _ | refine Ext.trans ?_ (by assumption))))) ?_
        rintro e w2 ⟨rfl, hx2⟩
        rw [Hnb.out]
        go_wp2_with fail
        go_ret2
        exact ⟨rfl, (by repeat (first | exact Ext.refl _ | assumption | refine Ext.alloc ?_ _ | refine Ext.drew ?_ | refine Ext.drewN ?_ _ | refine Ext.setCell ?_ (by first | (simp; done) | (simp; omega) | omega) _ | refine Ext.trans ?_ (by assumption)))⟩
      · obtain ⟨n1, n2⟩ := num_no (s := s) (by
          cases e : numO s.data.toList with
          | none => rfl
          | some n =>
            obtain ⟨h1, h2⟩ := numO_some e
            rw [h2, parse_dec h1] at hp
            injection hp with hp
            refine absurd ?_ hsd
            rw [← hp, Int.toNat_natCast, ← byL_data s, h2]
            rfl)
        rw [n1, n2]
        have hnb : numB v = decB v.toNat := numB_pos hneg
        have Hnb := Lib.hid hnb
        have hss := str_ne (fun e => hsd e.symm : ¬ decB v.toNat = s)
        clear n1 n2 hp hsd hnb
        go_enter Tryz.func85, Tryz.ntmps85
        go_wp2_with fail
        refine Calls.mono H.out ?_
        rintro e w1 ⟨rfl, hx⟩
        have hx1 : Ext w w1 := by
          rcases hx with rfl | ⟨t, rfl⟩
          · exact Ext.refl _
          · exact Go.Joins.below_bytesWorld _ _ _ _ (Nat.le_refl _)
        clear hx
        go_wp2_with fail
        refine Calls.mono (impl_decimal_w v _ hb.1 hb.2 (Ht.out.ext (by repeat (first | exact Ext.refl _ | assumption | refine Ext.alloc ?_ _ | refine Ext.drew ?_ | refine Ext.drewN ?_ _ | refine Ext.setCell ?_ (by first | (simp; done) | (simp; omega) | omega) _ | refine Ext.trans ?_ (by assumption))))) ?_
        rintro e w2 ⟨rfl, hx2⟩
        rw [Hnb.out]
        go_wp2_with fail
        go_ret2
        exact ⟨rfl, (by repeat (first | exact Ext.refl _ | assumption | refine Ext.alloc ?_ _ | refine Ext.drew ?_ | refine Ext.drewN ?_ _ | refine Ext.setCell ?_ (by first | (simp; done) | (simp; omega) | omega) _ | refine Ext.trans ?_ (by assumption)))⟩
end Go.Proofs.YtbddkmlfjghllaaGreatDoor
