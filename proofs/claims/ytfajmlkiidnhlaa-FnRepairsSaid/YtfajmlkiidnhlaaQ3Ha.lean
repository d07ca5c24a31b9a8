/- Texts merged (a claim holds at most sixty files): Ha, Rp, Hb. -/
import Derived.Test.YtfajmlkiidnhlaaQ3So
import Derived.Test.YtfajmlkiidnhlaaQ3Hs
import Derived.Test.YtfajmlkiidnhlaaQ3Gv
import Derived.Test.YtfajmlkiidnhlaaQ3Gc
import Derived.Test.YtfajmlkiidnhlaaQ3V
/- Contracts: HasSolution. -/
namespace Go.Proofs.Ytfajmlkiidnhlaa
set_option linter.unusedVariables false
set_option linter.unusedSimpArgs false
open Go.RowKit
attribute [local go_sem] cell_onto

noncomputable def hasV (n : Net) : Bool := bif B (codeE n true = 0) then B (Sol n) else false
theorem hasV_no {n : Net} (h : codeE n true ≠ 0) : hasV n = false := by unfold hasV; rw [B_false h]; rfl
theorem hasV_ok {n : Net} (h : codeE n true = 0) : hasV n = B (Sol n) := by unfold hasV; rw [B_true h]; rfl
theorem varsOk_nil (n : Net) : VarsOk n [] := fun i hi => absurd hi (by simp)
theorem few_of {n : Net} (h : choN 4096 n.sets ≤ 4096) : prodN n.sets ≤ 4096 := by
  have h1 : choN ((4096 : Nat) : Int) n.sets = (prodN n.sets : Int) := choN_exact (m := 4096) (l := n.sets) h
  have h2 : choN ((4096 : Nat) : Int) n.sets ≤ 4096 := h
  omega
theorem nilInts (w : World) : Ints w 0 w.heap.size (.slice none 0 0) [] := ⟨by simp [maxLen], none, 0, rfl, Nat.le_refl _, fun h => absurd h (by simp)⟩

set_option maxHeartbeats 1000000 in
theorem impl_HasSolution (s k : Value) (n : Net) (w : World) (h : NetIn w s k n) : Calls Try.prog 25 #[.agg #[s, k]] w (RetX (.tuple #[.bool (hasV n), .int .i64 (codeE n true)]) w) := by
  have H := Lib.hid h
  have Hv := Lib.hid (B_true (varsOk_nil n))
  clear h
  go_enter Try.func25, Try.ntmps25
  go_wp2_with fail
  refine Calls.mono (impl_checkChoices s k _ n [] _ (H.out.up (by repeat (first | exact Ext.refl _ | assumption | refine Ext.alloc ?_ _ | refine Ext.drew ?_ | refine Ext.drewN ?_ _ | refine Ext.setCell ?_ (by first | (simp; done) | (simp; omega) | omega) _ | refine Ext.trans ?_ (by assumption)))) (nilInts _)) ?_
  rintro e w1 ⟨rfl, hx1⟩
  rw [Hv.out]
  have hb := (Boxed.new w [s, k] 27).ext hx1; have hb0 := hb.at0; have hb1 := hb.at1; have hbg := hb.1; have Hhb := Lib.hid hb; clear hb
  have hx : Ext w w1 := (by repeat (first | exact Ext.refl _ | assumption | refine Ext.alloc ?_ _ | refine Ext.drew ?_ | refine Ext.drewN ?_ _ | refine Ext.setCell ?_ (by first | (simp; done) | (simp; omega) | omega) _ | refine Ext.trans ?_ (by assumption)))
  clear hx1
  by_cases hc : codeE n true = 0
  · have Hc := Lib.hid hc
    have Hz := Lib.hid (codeE_zero hc)
    have hd : (codeE n true != 0) = false := by rw [hc]; rfl
    clear hc
    go_wp2_with fail
    refine Calls.mono (impl_isSolvable s k n _ (H.out.up (by repeat (first | exact Ext.refl _ | assumption | refine Ext.alloc ?_ _ | refine Ext.drew ?_ | refine Ext.drewN ?_ _ | refine Ext.setCell ?_ (by first | (simp; done) | (simp; omega) | omega) _ | refine Ext.trans ?_ (by assumption)))) (NetFit.of Hz.out.1)) ?_
    rintro e w2 ⟨rfl, hx2⟩
    go_wp2_with fail
    go_ret2
    exact ⟨by rw [hasV_ok Hc.out, Hc.out]; rfl, (by repeat (first | exact Ext.refl _ | assumption | refine Ext.alloc ?_ _ | refine Ext.drew ?_ | refine Ext.drewN ?_ _ | refine Ext.setCell ?_ (by first | (simp; done) | (simp; omega) | omega) _ | refine Ext.trans ?_ (by assumption)))⟩
  · have Hc := Lib.hid hc
    have hd : (codeE n true != 0) = true := by simp [hc]
    clear hc
    go_wp2_with fail
    go_ret2
    exact ⟨by rw [hasV_no Hc.out]; rfl, (by repeat (first | exact Ext.refl _ | assumption | refine Ext.alloc ?_ _ | refine Ext.drew ?_ | refine Ext.drewN ?_ _ | refine Ext.setCell ?_ (by first | (simp; done) | (simp; omega) | omega) _ | refine Ext.trans ?_ (by assumption)))⟩
set_option maxHeartbeats 1000000 in
theorem spec_HasSolution (s k : Value) (n : Net) (w : World) (h : NetIn w s k n) : Calls Try.prog 26 #[.agg #[s, k]] w (RetX (.tuple #[.bool (hasV n), .int .i64 (codeE n true)]) w) := by
  have H := Lib.hid h
  clear h
  go_enter Try.func26, Try.ntmps26
  go_wp2_with fail
  refine Calls.mono (spec_l20Code s k n true _ (H.out.up (by repeat (first | exact Ext.refl _ | assumption | refine Ext.alloc ?_ _ | refine Ext.drew ?_ | refine Ext.drewN ?_ _ | refine Ext.setCell ?_ (by first | (simp; done) | (simp; omega) | omega) _ | refine Ext.trans ?_ (by assumption))))) ?_
  rintro e w1 ⟨rfl, hx1⟩
  have hb := (Boxed.new w [s, k] 27).ext hx1; have hb0 := hb.at0; have hb1 := hb.at1; have hbg := hb.1; have Hhb := Lib.hid hb; clear hb
  have hx : Ext w w1 := (by repeat (first | exact Ext.refl _ | assumption | refine Ext.alloc ?_ _ | refine Ext.drew ?_ | refine Ext.drewN ?_ _ | refine Ext.setCell ?_ (by first | (simp; done) | (simp; omega) | omega) _ | refine Ext.trans ?_ (by assumption)))
  clear hx1
  by_cases hc : codeE n true = 0
  · have Hc := Lib.hid hc
    have Hz := Lib.hid (codeE_zero hc)
    have hd : (codeE n true != 0) = false := by rw [hc]; rfl
    clear hc
    go_wp2_with fail
    refine Calls.mono (spec_l20Has s k n _ (H.out.up (by repeat (first | exact Ext.refl _ | assumption | refine Ext.alloc ?_ _ | refine Ext.drew ?_ | refine Ext.drewN ?_ _ | refine Ext.setCell ?_ (by first | (simp; done) | (simp; omega) | omega) _ | refine Ext.trans ?_ (by assumption)))) (NetFit.of Hz.out.1) (few_of Hz.out.2.2)) ?_
    rintro e w2 ⟨rfl, hx2⟩
    go_wp2_with fail
    go_ret2
    exact ⟨by rw [hasV_ok Hc.out, Hc.out]; rfl, (by repeat (first | exact Ext.refl _ | assumption | refine Ext.alloc ?_ _ | refine Ext.drew ?_ | refine Ext.drewN ?_ _ | refine Ext.setCell ?_ (by first | (simp; done) | (simp; omega) | omega) _ | refine Ext.trans ?_ (by assumption)))⟩
  · have Hc := Lib.hid hc
    have hd : (codeE n true != 0) = true := by simp [hc]
    clear hc
    go_wp2_with fail
    go_ret2
    exact ⟨by rw [hasV_no Hc.out]; rfl, (by repeat (first | exact Ext.refl _ | assumption | refine Ext.alloc ?_ _ | refine Ext.drew ?_ | refine Ext.drewN ?_ _ | refine Ext.setCell ?_ (by first | (simp; done) | (simp; omega) | omega) _ | refine Ext.trans ?_ (by assumption)))⟩
end Go.Proofs.Ytfajmlkiidnhlaa

/- Contracts: whether statements repair or contradict: the program's. -/
namespace Go.Proofs.Ytfajmlkiidnhlaa
set_option linter.unusedVariables false
set_option linter.unusedSimpArgs false
open Go.RowKit
attribute [local go_sem] cell_onto

noncomputable def repB (n : Net) (l : List Int) : Bool := B (Sol (giveN (fun i => HasI l i) n))
noncomputable def conB (n : Net) (l : List Int) : Bool := !B (Sol (giveN (fun i => ¬ HasI l i) n))

set_option maxHeartbeats 400000 in
theorem impl_repairs_1 (i : Int) (gb : Nat) (v : Value) (l : List Int) (w : World) (hb : w.cell? ⟨gb, 0, none⟩ = some v) (hg : gb < w.heap.size) (h : Ints w 0 w.heap.size v l) :
    Calls Try.prog 193 #[.int .i64 i, .pointer (some ⟨gb, 0, none⟩)] w (RetX (.bool (B (HasI l i))) w) := by
  obtain ⟨A, c, rfl, _, _⟩ := h.len
  have H := Lib.hid h
  clear h
  go_enter Try.func193, Try.ntmps193
  go_wp2_with fail
  refine Calls.mono (slices_Contains_ints _ l i w H.out) ?_
  rintro e w1 ⟨rfl, hx1⟩
  go_wp2_with fail
  go_ret
  exact ⟨rfl, (by repeat (first | exact Ext.refl _ | assumption | refine Ext.alloc ?_ _ | refine Ext.drew ?_ | refine Ext.drewN ?_ _ | refine Ext.setCell ?_ (by first | (simp; done) | (simp; omega) | omega) _ | refine Ext.trans ?_ (by assumption)))⟩
set_option maxHeartbeats 1000000 in
theorem impl_repairs (s k v : Value) (n : Net) (l : List Int) (w : World) (h : NetIn w s k n) (hl : Ints w 0 w.heap.size v l) (hok : NetOk n) :
    Calls Try.prog 125 #[.agg #[s, k], v] w (RetX (.bool (repB n l)) w) := by
  obtain ⟨A, c, rfl, hn, hc⟩ := hl.len
  have H := Lib.hid h
  have Hl := Lib.hid hl
  have Hok := Lib.hid hok
  have hx : Ext w ((w.alloc (.cells #[s, k] 27)).alloc (.cells #[.slice A l.length c] 28)) := (by repeat (first | exact Ext.refl _ | assumption | refine Ext.alloc ?_ _ | refine Ext.drew ?_ | refine Ext.drewN ?_ _ | refine Ext.setCell ?_ (by first | (simp; done) | (simp; omega) | omega) _ | refine Ext.trans ?_ (by assumption)))
  have Hlb : Hid (Boxed ((w.alloc (.cells #[s, k] 27)).alloc (.cells #[.slice A l.length c] 28)) (w.heap.size + 1) [.slice A l.length c]) := Lib.hid (by
    have := Boxed.new (w.alloc (.cells #[s, k] 27)) [.slice A l.length c] 28
    rwa [World.size_alloc] at this)
  have Hx := Lib.hid hx
  clear h hl hok hx
  go_enter Try.func125, Try.ntmps125
  go_wp2_with fail
  refine Calls.mono (impl_giveUp s k n 193 #[.pointer (some ⟨w.heap.size + 1, 0, none⟩)] (fun i => HasI l i) _ (H.out.up Hx.out) Hok.out Try.call193 (fun i w' _ hxx => impl_repairs_1 i (w.heap.size + 1) _ l w' ((Hlb.out.ext hxx).at0) (Hlb.out.ext hxx).1 (Hl.out.up (Hx.out.trans hxx)))) ?_
  rintro e w2 ⟨gs, gk, rfl, hx2, ho⟩
  have Ho := Lib.hid ho.net.netIn
  have Hf := Lib.hid (NetFit.of (giveN_ok (is := fun i => HasI l i) Hok.out))
  have hxw2 : Ext w w2 := Hx.out.trans hx2
  clear ho hx2
  go_wp2_with fail
  refine Calls.mono (impl_isSolvable gs gk _ _ Ho.out Hf.out) ?_
  rintro e w3 ⟨rfl, hx3⟩
  go_wp2_with fail
  go_ret
  exact ⟨rfl, (by repeat (first | exact Ext.refl _ | assumption | refine Ext.alloc ?_ _ | refine Ext.drew ?_ | refine Ext.drewN ?_ _ | refine Ext.setCell ?_ (by first | (simp; done) | (simp; omega) | omega) _ | refine Ext.trans ?_ (by assumption)))⟩

noncomputable def isRepV (n : Net) (l : List Int) : Bool := bif B (blE n l = 0) then repB n l else false
noncomputable def doConV (n : Net) (l : List Int) : Bool := bif B (blE n l = 0) then conB n l else false
theorem isRepV_no {n : Net} {l : List Int} (h : blE n l ≠ 0) : isRepV n l = false := by unfold isRepV; rw [B_false h]; rfl
theorem isRepV_ok {n : Net} {l : List Int} (h : blE n l = 0) : isRepV n l = repB n l := by unfold isRepV; rw [B_true h]; rfl
theorem doConV_no {n : Net} {l : List Int} (h : blE n l ≠ 0) : doConV n l = false := by unfold doConV; rw [B_false h]; rfl
theorem doConV_ok {n : Net} {l : List Int} (h : blE n l = 0) : doConV n l = conB n l := by unfold doConV; rw [B_true h]; rfl
set_option maxHeartbeats 1000000 in
theorem impl_IsRepair (s k v : Value) (n : Net) (l : List Int) (w : World) (h : NetIn w s k n) (hl : Ints w 0 w.heap.size v l) :
    Calls Try.prog 39 #[.agg #[s, k], v] w (RetX (.tuple #[.bool (isRepV n l), .int .i64 (blE n l)]) w) := by
  obtain ⟨A, c, rfl, hn, hc⟩ := hl.len
  have H := Lib.hid h
  have Hl := Lib.hid hl
  clear h hl
  go_enter Try.func39, Try.ntmps39
  go_wp2_with fail
  refine Calls.mono (impl_checkBlame s k _ n l _ (H.out.up (by repeat (first | exact Ext.refl _ | assumption | refine Ext.alloc ?_ _ | refine Ext.drew ?_ | refine Ext.drewN ?_ _ | refine Ext.setCell ?_ (by first | (simp; done) | (simp; omega) | omega) _ | refine Ext.trans ?_ (by assumption)))) (Hl.out.up (by repeat (first | exact Ext.refl _ | assumption | refine Ext.alloc ?_ _ | refine Ext.drew ?_ | refine Ext.drewN ?_ _ | refine Ext.setCell ?_ (by first | (simp; done) | (simp; omega) | omega) _ | refine Ext.trans ?_ (by assumption))))) ?_
  rintro e w1 ⟨rfl, hx1⟩
  have hb := (Boxed.new w [s, k] 27).ext hx1; have hb0 := hb.at0; have hb1 := hb.at1; have hbg := hb.1; have Hhb := Lib.hid hb; clear hb
  have hx : Ext w w1 := (by repeat (first | exact Ext.refl _ | assumption | refine Ext.alloc ?_ _ | refine Ext.drew ?_ | refine Ext.drewN ?_ _ | refine Ext.setCell ?_ (by first | (simp; done) | (simp; omega) | omega) _ | refine Ext.trans ?_ (by assumption)))
  clear hx1
  by_cases hc : blE n l = 0
  · have Hc := Lib.hid hc
    have Hz := Lib.hid (blE_zero hc)
    have hd : (blE n l != 0) = false := by rw [hc]; rfl
    clear hc
    go_wp2_with fail
    refine Calls.mono (impl_repairs s k _ n l _ (H.out.up (by repeat (first | exact Ext.refl _ | assumption | refine Ext.alloc ?_ _ | refine Ext.drew ?_ | refine Ext.drewN ?_ _ | refine Ext.setCell ?_ (by first | (simp; done) | (simp; omega) | omega) _ | refine Ext.trans ?_ (by assumption)))) (Hl.out.up (by repeat (first | exact Ext.refl _ | assumption | refine Ext.alloc ?_ _ | refine Ext.drew ?_ | refine Ext.drewN ?_ _ | refine Ext.setCell ?_ (by first | (simp; done) | (simp; omega) | omega) _ | refine Ext.trans ?_ (by assumption)))) Hz.out.1) ?_
    rintro e w2 ⟨rfl, hx2⟩
    go_wp2_with fail
    go_ret2
    exact ⟨by rw [isRepV_ok Hc.out, Hc.out]; rfl, (by repeat (first | exact Ext.refl _ | assumption | refine Ext.alloc ?_ _ | refine Ext.drew ?_ | refine Ext.drewN ?_ _ | refine Ext.setCell ?_ (by first | (simp; done) | (simp; omega) | omega) _ | refine Ext.trans ?_ (by assumption)))⟩
  · have Hc := Lib.hid hc
    have hd : (blE n l != 0) = true := by simp [hc]
    clear hc
    go_wp2_with fail
    go_ret2
    exact ⟨by rw [isRepV_no Hc.out]; rfl, (by repeat (first | exact Ext.refl _ | assumption | refine Ext.alloc ?_ _ | refine Ext.drew ?_ | refine Ext.drewN ?_ _ | refine Ext.setCell ?_ (by first | (simp; done) | (simp; omega) | omega) _ | refine Ext.trans ?_ (by assumption)))⟩
end Go.Proofs.Ytfajmlkiidnhlaa

/- Contracts: CertainOrder. -/
namespace Go.Proofs.Ytfajmlkiidnhlaa
set_option linter.unusedVariables false
set_option linter.unusedSimpArgs false
open Go.RowKit
attribute [local go_sem] cell_onto

noncomputable def ordE (n : Net) (a b : Int) : Int := codeE n (B (VarsOk n [a, b]))
def ordN (n : Net) (a b : Int) : Net := ⟨n.sets, n.links ++ [⟨b, a, 0, 730499⟩]⟩
noncomputable def ordV (n : Net) (a b : Int) : Bool := bif B (ordE n a b = 0) then (bif B (a = b) then !B (Sol n) else !B (Sol (ordN n a b))) else false
theorem ordV_no {n : Net} {a b : Int} (h : ordE n a b ≠ 0) : ordV n a b = false := by unfold ordV; rw [B_false h]; rfl
theorem ordV_same {n : Net} {a b : Int} (h : ordE n a b = 0) (h2 : a = b) : ordV n a b = !B (Sol n) := by unfold ordV; rw [B_true h, B_true h2]; rfl
theorem ordV_two {n : Net} {a b : Int} (h : ordE n a b = 0) (h2 : ¬ a = b) : ordV n a b = !B (Sol (ordN n a b)) := by unfold ordV; rw [B_true h, B_false h2]; rfl
theorem vars2 {n : Net} {a b : Int} : VarsOk n [a, b] ↔ (0 ≤ a ∧ a ≤ (n.sets.length : Int) - 1) ∧ (0 ≤ b ∧ b ≤ (n.sets.length : Int) - 1) := by
  constructor
  · intro h
    exact ⟨h 0 (by simp), h 1 (by simp)⟩
  · rintro ⟨h1, h2⟩ i hi
    match i, hi with
    | 0, _ => exact h1
    | 1, _ => exact h2
theorem ordN_fit {n : Net} {a b : Int} (h : NetOk n) (hv : VarsOk n [a, b]) (hne : ¬ a = b) : NetFit (ordN n a b) := by
  have hf := NetFit.of h
  obtain ⟨h1, h2⟩ := vars2.1 hv
  refine ⟨hf.s8, ?_, ?_, hf.sps, hf.fit⟩
  · show (n.links ++ [_]).length ≤ 21
    have := h.2.1
    simp
    omega
  · intro j hj
    have hj' : j < n.links.length + 1 := by simpa [ordN] using hj
    show LkOk (lkAt (n.links ++ [_]) j) n.sets.length
    rw [lkAt_push _ _ hj']
    by_cases e : j = n.links.length
    · rw [if_pos e]
      exact ⟨h2, h1, fun e => hne e.symm, ⟨by show (-730499 : Int) ≤ 0; omega, by show (0 : Int) ≤ 730499; omega⟩, ⟨by show (-730499 : Int) ≤ 730499; omega, Int.le_refl _⟩, by show (0 : Int) ≤ 730499; omega⟩
    · rw [if_neg e]
      exact h.2.2.2 j (by omega)
theorem ints2 (w : World) (a b : Int) (T : TypeId) : Ints (w.alloc (.cells #[.int .i64 a, .int .i64 b] T)) 0 (w.alloc (.cells #[.int .i64 a, .int .i64 b] T)).heap.size (.slice (some ⟨w.heap.size, 0, none⟩) 2 2) [a, b] :=
  have h := Boxed.new w [.int .i64 a, .int .i64 b] T
  ⟨by simp [maxLen], _, 2, rfl, Nat.le_refl _, fun _ => ⟨w.heap.size, 0, rfl, Nat.zero_le _, h.1, fun i hi => by
    rw [Nat.zero_add]
    have hi' : i < 2 := by simpa using hi
    match i, hi' with
    | 0, _ => exact (h.2 0 _ rfl).1
    | 1, _ => exact (h.2 1 _ rfl).1⟩⟩

set_option maxRecDepth 100000 in
set_option maxHeartbeats 4000000 in
theorem impl_CertainOrder (s k : Value) (n : Net) (a b : Int) (w : World) (h : NetIn w s k n) :
    Calls Try.prog 30 #[.agg #[s, k], .int .i64 a, .int .i64 b] w (RetX (.tuple #[.bool (ordV n a b), .int .i64 (ordE n a b)]) w) := by
  have H := Lib.hid h
  have Hv : Hid (Ints ((w.alloc (.cells #[s, k] 27)).alloc (.cells #[.int .i64 a, .int .i64 b] 2)) 0 ((w.alloc (.cells #[s, k] 27)).alloc (.cells #[.int .i64 a, .int .i64 b] 2)).heap.size (.slice (some ⟨w.heap.size + 1, 0, none⟩) 2 2) [a, b]) := Lib.hid (by
    have := ints2 (w.alloc (.cells #[s, k] 27)) a b 2
    rwa [show (w.alloc (.cells #[s, k] 27)).heap.size = w.heap.size + 1 from World.size_alloc _ _] at this)
  clear h
  go_enter Try.func30, Try.ntmps30
  go_wp2_with fail
  refine Calls.mono (impl_checkChoices s k _ n [a, b] _ (H.out.up (by repeat (first | exact Ext.refl _ | assumption | refine Ext.alloc ?_ _ | refine Ext.drew ?_ | refine Ext.drewN ?_ _ | refine Ext.setCell ?_ (by first | (simp; done) | (simp; omega) | omega) _ | refine Ext.trans ?_ (by assumption)))) Hv.out) ?_
  rintro e w1 ⟨rfl, hx1⟩
  have hb := (Boxed.new w [s, k] 27).ext (((Ext.refl _).alloc _).trans hx1); have hb0 := hb.at0; have hb1 := hb.at1; have hbg := hb.1; have Hhb := Lib.hid hb; clear hb
  have hx : Ext w w1 := (by repeat (first | exact Ext.refl _ | assumption | refine Ext.alloc ?_ _ | refine Ext.drew ?_ | refine Ext.drewN ?_ _ | refine Ext.setCell ?_ (by first | (simp; done) | (simp; omega) | omega) _ | refine Ext.trans ?_ (by assumption)))
  have He : Hid (codeE n (B (VarsOk n [a, b])) = ordE n a b) := Lib.hid rfl
  rw [He.out]
  clear hx1 Hv
  by_cases hc : ordE n a b = 0
  · have Hc := Lib.hid hc
    obtain ⟨z1, z2, z3⟩ := codeE_zero hc
    have Hok := Lib.hid z1
    have Hvs := Lib.hid (B_iff.1 z2)
    have hd : (ordE n a b != 0) = false := by rw [hc]; rfl
    have h20 := z1.2.1
    clear hc z1 z2 z3
    go_wp2_with fail
    refine Calls.mono (impl_ownNetwork _ _ n _ (H.out.up (by repeat (first | exact Ext.refl _ | assumption | refine Ext.alloc ?_ _ | refine Ext.drew ?_ | refine Ext.drewN ?_ _ | refine Ext.setCell ?_ (by first | (simp; done) | (simp; omega) | omega) _ | refine Ext.trans ?_ (by assumption)))) Hok.out.small) ?_
    rintro e w3 ⟨os, ok', a0, b0, rfl, hx3, ha0, hab, hb0', hos, hk3, hkg⟩
    obtain ⟨Ao, co, rfl⟩ := hos.len
    obtain ⟨Aq, cq, rfl⟩ := ownsRow_len hk3
    have Hos := Lib.hid hos
    have Hk3 := Lib.hid hk3
    have Hkg := Lib.hid hkg
    have hz3 := hx3.size
    have hxw3 : Ext w w3 := (by repeat (first | exact Ext.refl _ | assumption | refine Ext.alloc ?_ _ | refine Ext.drew ?_ | refine Ext.drewN ?_ _ | refine Ext.setCell ?_ (by first | (simp; done) | (simp; omega) | omega) _ | refine Ext.trans ?_ (by assumption)))
    have hz1 := hx.size
    clear hos hk3 hkg hb0 hb1 hbg Hhb hx3
    by_cases hab' : a = b
    · have Hab := Lib.hid hab'
      have T1 : (a != b) = false := by simp [hab']
      have HN : Hid (NetIn (w3.alloc (.cells #[.slice Ao n.sets.length co, .slice Aq n.links.length cq] 27)) (.slice Ao n.sets.length co) (.slice Aq n.links.length cq) n) := Lib.hid (by
        have ho := (ownNet_of (n := n) Hos.out Hk3.out (by omega) hb0' (fun g hg hh => by have := Hkg.out g hg; omega)).net
        exact (ho.netIn).up (by repeat (first | exact Ext.refl _ | assumption | refine Ext.alloc ?_ _ | refine Ext.drew ?_ | refine Ext.drewN ?_ _ | refine Ext.setCell ?_ (by first | (simp; done) | (simp; omega) | omega) _ | refine Ext.trans ?_ (by assumption))))
      clear hab'
      go_wp2_with fail
      refine Calls.mono (impl_isSolvable _ _ n _ HN.out (NetFit.of Hok.out)) ?_
      rintro e w5 ⟨rfl, hx5⟩
      go_wp2_with fail
      go_ret2
      exact ⟨by rw [ordV_same Hc.out Hab.out, Hc.out]; rfl, (by repeat (first | exact Ext.refl _ | assumption | refine Ext.alloc ?_ _ | refine Ext.drew ?_ | refine Ext.drewN ?_ _ | refine Ext.setCell ?_ (by first | (simp; done) | (simp; omega) | omega) _ | refine Ext.trans ?_ (by assumption)))⟩
    · have Hab := Lib.hid hab'
      have T1 : (a != b) = true := by simp [hab']
      clear hab'
      have Hsrc : Hid (Row ((w3.alloc (.cells #[.slice Ao n.sets.length co, .slice Aq n.links.length cq] 27)).alloc (.cells #[.int .i64 b, .int .i64 a, .int .i64 0, .int .i64 730499] 60)) 0 ((w3.alloc (.cells #[.slice Ao n.sets.length co, .slice Aq n.links.length cq] 27)).alloc (.cells #[.int .i64 b, .int .i64 a, .int .i64 0, .int .i64 730499] 60)).heap.size 4 (.slice (some ⟨w3.heap.size + 1, 0, none⟩) 1 1) 1 (linkCell [⟨b, a, 0, 730499⟩])) := Lib.hid (by
        have := (Boxed.new (w3.alloc (.cells #[.slice Ao n.sets.length co, .slice Aq n.links.length cq] 27)) [.int .i64 b, .int .i64 a, .int .i64 0, .int .i64 730499] 60).row rfl (link_cells b a 0 730499)
        rwa [show (w3.alloc (.cells [.slice Ao n.sets.length co, .slice Aq n.links.length cq].toArray 27)).heap.size = w3.heap.size + 1 from World.size_alloc _ _] at this)
      go_wp2_with (at_builtin; refine wpList_append_row _ rfl _ _ 25 rfl w1.heap.size 60 4 32 Try.underlying25 (by kernel_rfl) (by omega) _ n.links.length 1 _ rfl (.inl (row_ext Hk3.out (by repeat (first | exact Ext.refl _ | assumption | refine Ext.alloc ?_ _ | refine Ext.drew ?_ | refine Ext.drewN ?_ _ | refine Ext.setCell ?_ (by first | (simp; done) | (simp; omega) | omega) _ | refine Ext.trans ?_ (by assumption))))) (.inr (by omega)) 0 _ _ (linkCell [⟨b, a, 0, 730499⟩]) rfl Hsrc.out (fun i _ => linkCell_one _ i) (by unfold maxLen; omega) (by omega) (by simp; omega) ?_; intro k4 w4 hk4 hput; obtain ⟨Av, cv, rfl⟩ := ownsRow_len hk4; have Hk4 := Lib.hid hk4; have Hput := Lib.hid hput; clear hk4 hput;
                                   (
                                    obtain ⟨hos2, hk2, hkg2⟩ := addNet Hos.out Hk3.out (fun g hg hh => by have := Hkg.out g hg; omega) hb0' (show Ext w3 ((w3.alloc (.cells #[.slice Ao n.sets.length co, .slice Aq n.links.length cq] 27)).alloc (.cells #[.int .i64 b, .int .i64 a, .int .i64 0, .int .i64 730499] 60)) from (by repeat (first | exact Ext.refl _ | assumption | refine Ext.alloc ?_ _ | refine Ext.drew ?_ | refine Ext.drewN ?_ _ | refine Ext.setCell ?_ (by first | (simp; done) | (simp; omega) | omega) _ | refine Ext.trans ?_ (by assumption)))) Hput.out Hk4.out
                                    have Hos2 := Lib.hid hos2
                                    have Hk2 := Lib.hid hk2
                                    have Hkg2 := Lib.hid hkg2
                                    clear hos2 hk2 hkg2
                                    have hz4 := Hput.out.size
                                    simp at hz4
                                    have hob4 : Boxed w4 w3.heap.size [.slice Ao n.sets.length co, .slice Aq n.links.length cq] := ((Boxed.new w3 [.slice Ao n.sets.length co, .slice Aq n.links.length cq] 27).ext ((Ext.refl _).alloc _)).off Hput.out.1 (fun hh => by
                                      have h1 := (Hk3.out.lt _ hh.2.2).2
                                      omega)
                                    have Hx4 := Lib.hid (Hput.out.ext (show Ext w _ from (by repeat (first | exact Ext.refl _ | assumption | refine Ext.alloc ?_ _ | refine Ext.drew ?_ | refine Ext.drewN ?_ _ | refine Ext.setCell ?_ (by first | (simp; done) | (simp; omega) | omega) _ | refine Ext.trans ?_ (by assumption)))) (by omega))
                                    have Hob4 := Lib.hid hob4
                                    clear Hos Hk3 Hkg Hsrc Hput Hk4
                                    have ob := hob4; have ob0 := ob.at0; have ob1 := ob.at1; have obg := ob.1; have Hob := Lib.hid ob; clear ob
                                    have of1 := Hob.out.fz 1 (by simp)))
      have hO : Off (fun k => k = w3.heap.size) w4 (w4.setCell ⟨w3.heap.size, 1, none⟩ (.slice Av (n.links.length + 1) cv)) := Off.setCell (S := fun k => k = w3.heap.size) (p := ⟨w3.heap.size, 1, none⟩) (Off.refl _ _) (.inl rfl) _
      have hx5 : Ext w (w4.setCell ⟨w3.heap.size, 1, none⟩ (.slice Av (n.links.length + 1) cv)) := Hx4.out.off hO (fun k hk hh => by omega)
      have hN : NetIn (w4.setCell ⟨w3.heap.size, 1, none⟩ (.slice Av (n.links.length + 1) cv)) (.slice Ao n.sets.length co) (.slice Av (n.links.length + 1) cv) (ordN n a b) := by
        have hz5 := hO.size
        have hz6 : w3.heap.size < w4.heap.size := Hob4.out.1
        have ho := (ownNet_of (lo := w1.heap.size) (n := ordN n a b) (a := a0) (b := b0) (Hos2.out.off hO (fun k h1 h2 hh => by omega)) (ownsRow_off Hk2.out hO (fun g hg hh => ?_)) (by omega) (by omega) (fun g hg => (Hkg2.out g hg).1)).net
        · exact ho.netIn
        · have h1 := (Hkg2.out g hg).2
          have h2 := (Hk2.out.lt g hg).1
          simp at h1
          omega
      refine Calls.mono (impl_isSolvable _ _ (ordN n a b) _ hN (ordN_fit Hok.out Hvs.out Hab.out)) ?_
      rintro e w5 ⟨rfl, hx6⟩
      have hxx := hx5.trans hx6
      clear hO hx5 hN hx6
      go_wp2_with fail
      go_ret2
      exact ⟨by rw [ordV_two Hc.out Hab.out, Hc.out]; rfl, hxx⟩
  · have Hc := Lib.hid hc
    have hd : (ordE n a b != 0) = true := by simp [hc]
    clear hc
    go_wp2_with fail
    go_ret2
    exact ⟨by rw [ordV_no Hc.out]; rfl, (by repeat (first | exact Ext.refl _ | assumption | refine Ext.alloc ?_ _ | refine Ext.drew ?_ | refine Ext.drewN ?_ _ | refine Ext.setCell ?_ (by first | (simp; done) | (simp; omega) | omega) _ | refine Ext.trans ?_ (by assumption)))⟩
set_option maxRecDepth 100000 in
set_option maxHeartbeats 4000000 in
theorem spec_CertainOrder (s k : Value) (n : Net) (a b : Int) (w : World) (h : NetIn w s k n) :
    Calls Try.prog 31 #[.agg #[s, k], .int .i64 a, .int .i64 b] w (RetX (.tuple #[.bool (ordV n a b), .int .i64 (ordE n a b)]) w) := by
  obtain ⟨As, cs, rfl, hns, hcs⟩ := h.1.len
  have H := Lib.hid h
  have hq1 : Hid (B (0 ≤ a ∧ a ≤ (n.sets.length : Int) - 1) = B (0 ≤ a ∧ a ≤ (n.sets.length : Int) - 1)) := Lib.hid rfl
  clear h
  go_enter Try.func31, Try.ntmps31
  have bb := Boxed.new w [.slice As n.sets.length cs, k] 27; have bb0 := bb.at0; have bb1 := bb.at1; have bbg := bb.1; have Hbb := Lib.hid bb; clear bb
  have hx0 : Ext w (w.alloc (.cells #[.slice As n.sets.length cs, k] 27)) := (by repeat (first | exact Ext.refl _ | assumption | refine Ext.alloc ?_ _ | refine Ext.drew ?_ | refine Ext.drewN ?_ _ | refine Ext.setCell ?_ (by first | (simp; done) | (simp; omega) | omega) _ | refine Ext.trans ?_ (by assumption)))
  go_wp2_with fail
  rcases Bool.eq_false_or_eq_true (B (0 ≤ a ∧ a ≤ (n.sets.length : Int) - 1)) with ha | ha
  · have Ha := Lib.hid ha
    rcases Bool.eq_false_or_eq_true (B (0 ≤ b ∧ b ≤ (n.sets.length : Int) - 1)) with hb | hb
    · have Hb := Lib.hid hb
      clear ha hb
      have He : Hid (codeE n true = ordE n a b) := Lib.hid (by unfold ordE; rw [B_true (vars2.2 ⟨B_iff.1 Ha.out, B_iff.1 Hb.out⟩)])
      (refine wp_region_onto prog_mixed (by kernel_rfl) ?_; (repeat (go_big_quiet_step ((first | (go_at_call 98; with_reducible exact onto_callS (spec_l01In_b Ha.out _)) | (go_at_call 98; with_reducible exact onto_callS (spec_l01In_b Hb.out _)) | (go_at_call 111; with_reducible exact onto_callX (spec_l20Code _ k n true _ (H.out.up (hx0.trans (onto_ext _ _))))))))); refine onto_end ?_; intro w1 hx1)
      rw [He.out]
      have hx : Ext w w1 := (by repeat (first | exact Ext.refl _ | assumption | refine Ext.alloc ?_ _ | refine Ext.drew ?_ | refine Ext.drewN ?_ _ | refine Ext.setCell ?_ (by first | (simp; done) | (simp; omega) | omega) _ | refine Ext.trans ?_ (by assumption)))
      have hbx := Hbb.out.ext (show Ext _ w1 from (by repeat (first | exact Ext.refl _ | assumption | refine Ext.alloc ?_ _ | refine Ext.drew ?_ | refine Ext.drewN ?_ _ | refine Ext.setCell ?_ (by first | (simp; done) | (simp; omega) | omega) _ | refine Ext.trans ?_ (by assumption))))
      clear bb0 bb1 bbg Hbb
      have hb := hbx; have hb0 := hb.at0; have hb1 := hb.at1; have hbg := hb.1; have Hhb := Lib.hid hb; clear hb
      clear hx1
      by_cases hc : ordE n a b = 0
      · have Hc := Lib.hid hc
        obtain ⟨z1, z2, z3⟩ := codeE_zero (He.out.trans hc)
        have Hok := Lib.hid z1
        have Hvs := Lib.hid (vars2.2 ⟨B_iff.1 Ha.out, B_iff.1 Hb.out⟩)
        have Hfew : Hid (prodN n.sets ≤ 4096) := Lib.hid (few_of z3)
        have hd : (ordE n a b != 0) = false := by rw [hc]; rfl
        have h20 := z1.2.1
        clear hc z1 z2 z3
        by_cases hab' : a = b
        · have Hab := Lib.hid hab'
          have T1 : (a == b) = true := by simp [hab']
          clear hab'
          go_wp2_with fail
          refine Calls.mono (spec_l20Has _ k n _ (H.out.up (by repeat (first | exact Ext.refl _ | assumption | refine Ext.alloc ?_ _ | refine Ext.drew ?_ | refine Ext.drewN ?_ _ | refine Ext.setCell ?_ (by first | (simp; done) | (simp; omega) | omega) _ | refine Ext.trans ?_ (by assumption)))) (NetFit.of Hok.out) Hfew.out) ?_
          rintro e w5 ⟨rfl, hx5⟩
          go_wp2_with fail
          go_ret2
          exact ⟨by rw [ordV_same Hc.out Hab.out, Hc.out]; rfl, (by repeat (first | exact Ext.refl _ | assumption | refine Ext.alloc ?_ _ | refine Ext.drew ?_ | refine Ext.drewN ?_ _ | refine Ext.setCell ?_ (by first | (simp; done) | (simp; omega) | omega) _ | refine Ext.trans ?_ (by assumption)))⟩
        · have Hab := Lib.hid hab'
          have T1 : (a == b) = false := by simp [hab']
          clear hab'
          go_wp2_with fail
          refine Calls.mono (spec_l18Own _ _ n _ (H.out.up (by repeat (first | exact Ext.refl _ | assumption | refine Ext.alloc ?_ _ | refine Ext.drew ?_ | refine Ext.drewN ?_ _ | refine Ext.setCell ?_ (by first | (simp; done) | (simp; omega) | omega) _ | refine Ext.trans ?_ (by assumption)))) Hok.out.small) ?_
          rintro e w3 ⟨os, ok', a0, b0, rfl, hx3, ha0, hab, hb0', hos, hk3, hkg⟩
          obtain ⟨Ao, co, rfl⟩ := hos.len
          obtain ⟨Aq, cq, rfl⟩ := ownsRow_len hk3
          have Hos := Lib.hid hos
          have Hk3 := Lib.hid hk3
          have Hkg := Lib.hid hkg
          have hz3 := hx3.size
          have hxw3 : Ext w w3 := (by repeat (first | exact Ext.refl _ | assumption | refine Ext.alloc ?_ _ | refine Ext.drew ?_ | refine Ext.drewN ?_ _ | refine Ext.setCell ?_ (by first | (simp; done) | (simp; omega) | omega) _ | refine Ext.trans ?_ (by assumption)))
          have hz1 := hx.size
          clear hos hk3 hkg hb0 hb1 hbg Hhb hx3
          have Hsrc : Hid (Row ((w3.alloc (.cells #[.slice Ao n.sets.length co, .slice Aq n.links.length cq] 27)).alloc (.cells #[.int .i64 b, .int .i64 a, .int .i64 0, .int .i64 730499] 60)) 0 ((w3.alloc (.cells #[.slice Ao n.sets.length co, .slice Aq n.links.length cq] 27)).alloc (.cells #[.int .i64 b, .int .i64 a, .int .i64 0, .int .i64 730499] 60)).heap.size 4 (.slice (some ⟨w3.heap.size + 1, 0, none⟩) 1 1) 1 (linkCell [⟨b, a, 0, 730499⟩])) := Lib.hid (by
            have := (Boxed.new (w3.alloc (.cells #[.slice Ao n.sets.length co, .slice Aq n.links.length cq] 27)) [.int .i64 b, .int .i64 a, .int .i64 0, .int .i64 730499] 60).row rfl (link_cells b a 0 730499)
            rwa [show (w3.alloc (.cells [.slice Ao n.sets.length co, .slice Aq n.links.length cq].toArray 27)).heap.size = w3.heap.size + 1 from World.size_alloc _ _] at this)
          go_wp2_with (at_builtin; refine wpList_append_row _ rfl _ _ 25 rfl w1.heap.size 60 4 32 Try.underlying25 (by kernel_rfl) (by omega) _ n.links.length 1 _ rfl (.inl (row_ext Hk3.out (by repeat (first | exact Ext.refl _ | assumption | refine Ext.alloc ?_ _ | refine Ext.drew ?_ | refine Ext.drewN ?_ _ | refine Ext.setCell ?_ (by first | (simp; done) | (simp; omega) | omega) _ | refine Ext.trans ?_ (by assumption))))) (.inr (by omega)) 0 _ _ (linkCell [⟨b, a, 0, 730499⟩]) rfl Hsrc.out (fun i _ => linkCell_one _ i) (by unfold maxLen; omega) (by omega) (by simp; omega) ?_; intro k4 w4 hk4 hput; obtain ⟨Av, cv, rfl⟩ := ownsRow_len hk4; have Hk4 := Lib.hid hk4; have Hput := Lib.hid hput; clear hk4 hput;
                                       (
                                        obtain ⟨hos2, hk2, hkg2⟩ := addNet Hos.out Hk3.out (fun g hg hh => by have := Hkg.out g hg; omega) hb0' (show Ext w3 ((w3.alloc (.cells #[.slice Ao n.sets.length co, .slice Aq n.links.length cq] 27)).alloc (.cells #[.int .i64 b, .int .i64 a, .int .i64 0, .int .i64 730499] 60)) from (by repeat (first | exact Ext.refl _ | assumption | refine Ext.alloc ?_ _ | refine Ext.drew ?_ | refine Ext.drewN ?_ _ | refine Ext.setCell ?_ (by first | (simp; done) | (simp; omega) | omega) _ | refine Ext.trans ?_ (by assumption)))) Hput.out Hk4.out
                                        have Hos2 := Lib.hid hos2
                                        have Hk2 := Lib.hid hk2
                                        have Hkg2 := Lib.hid hkg2
                                        clear hos2 hk2 hkg2
                                        have hz4 := Hput.out.size
                                        simp at hz4
                                        have hob4 : Boxed w4 w3.heap.size [.slice Ao n.sets.length co, .slice Aq n.links.length cq] := ((Boxed.new w3 [.slice Ao n.sets.length co, .slice Aq n.links.length cq] 27).ext ((Ext.refl _).alloc _)).off Hput.out.1 (fun hh => by
                                          have h1 := (Hk3.out.lt _ hh.2.2).2
                                          omega)
                                        have Hx4 := Lib.hid (Hput.out.ext (show Ext w _ from (by repeat (first | exact Ext.refl _ | assumption | refine Ext.alloc ?_ _ | refine Ext.drew ?_ | refine Ext.drewN ?_ _ | refine Ext.setCell ?_ (by first | (simp; done) | (simp; omega) | omega) _ | refine Ext.trans ?_ (by assumption)))) (by omega))
                                        have Hob4 := Lib.hid hob4
                                        clear Hos Hk3 Hkg Hsrc Hput Hk4
                                        have ob := hob4; have ob0 := ob.at0; have ob1 := ob.at1; have obg := ob.1; have Hob := Lib.hid ob; clear ob
                                        have of1 := Hob.out.fz 1 (by simp)))
          have hO : Off (fun k => k = w3.heap.size) w4 (w4.setCell ⟨w3.heap.size, 1, none⟩ (.slice Av (n.links.length + 1) cv)) := Off.setCell (S := fun k => k = w3.heap.size) (p := ⟨w3.heap.size, 1, none⟩) (Off.refl _ _) (.inl rfl) _
          have hx5 : Ext w (w4.setCell ⟨w3.heap.size, 1, none⟩ (.slice Av (n.links.length + 1) cv)) := Hx4.out.off hO (fun k hk hh => by omega)
          have hN : NetIn (w4.setCell ⟨w3.heap.size, 1, none⟩ (.slice Av (n.links.length + 1) cv)) (.slice Ao n.sets.length co) (.slice Av (n.links.length + 1) cv) (ordN n a b) := by
            have hz5 := hO.size
            have hz6 : w3.heap.size < w4.heap.size := Hob4.out.1
            have ho := (ownNet_of (lo := w1.heap.size) (n := ordN n a b) (a := a0) (b := b0) (Hos2.out.off hO (fun k h1 h2 hh => by omega)) (ownsRow_off Hk2.out hO (fun g hg hh => ?_)) (by omega) (by omega) (fun g hg => (Hkg2.out g hg).1)).net
            · exact ho.netIn
            · have h1 := (Hkg2.out g hg).2
              have h2 := (Hk2.out.lt g hg).1
              simp at h1
              omega
          refine Calls.mono (spec_l20Has _ _ (ordN n a b) _ hN (ordN_fit Hok.out Hvs.out Hab.out) Hfew.out) ?_
          rintro e w5 ⟨rfl, hx6⟩
          have hxx := hx5.trans hx6
          clear hO hx5 hN hx6
          go_wp2_with fail
          go_ret2
          exact ⟨by rw [ordV_two Hc.out Hab.out, Hc.out]; rfl, hxx⟩
      · have hd : (ordE n a b != 0) = true := by simp [hc]
        have Hc := Lib.hid hc
        clear hc
        go_wp2_with fail
        go_ret2
        exact ⟨by rw [ordV_no Hc.out]; rfl, (by repeat (first | exact Ext.refl _ | assumption | refine Ext.alloc ?_ _ | refine Ext.drew ?_ | refine Ext.drewN ?_ _ | refine Ext.setCell ?_ (by first | (simp; done) | (simp; omega) | omega) _ | refine Ext.trans ?_ (by assumption)))⟩
    · have Hb := Lib.hid hb
      clear ha hb
      have He : Hid (codeE n false = ordE n a b) := Lib.hid (by unfold ordE; rw [B_false (fun hh => by have h1 := B_true (vars2.1 hh).1; have h2 := B_true (vars2.1 hh).2; (try rw [Ha.out] at h1); (try rw [Hb.out] at h2); simp at h1 h2)])
      (refine wp_region_onto prog_mixed (by kernel_rfl) ?_; (repeat (go_big_quiet_step ((first | (go_at_call 98; with_reducible exact onto_callS (spec_l01In_b Ha.out _)) | (go_at_call 98; with_reducible exact onto_callS (spec_l01In_b Hb.out _)) | (go_at_call 111; with_reducible exact onto_callX (spec_l20Code _ k n false _ (H.out.up (hx0.trans (onto_ext _ _))))))))); refine onto_end ?_; intro w1 hx1)
      rw [He.out]
      have hx : Ext w w1 := (by repeat (first | exact Ext.refl _ | assumption | refine Ext.alloc ?_ _ | refine Ext.drew ?_ | refine Ext.drewN ?_ _ | refine Ext.setCell ?_ (by first | (simp; done) | (simp; omega) | omega) _ | refine Ext.trans ?_ (by assumption)))
      have hbx := Hbb.out.ext (show Ext _ w1 from (by repeat (first | exact Ext.refl _ | assumption | refine Ext.alloc ?_ _ | refine Ext.drew ?_ | refine Ext.drewN ?_ _ | refine Ext.setCell ?_ (by first | (simp; done) | (simp; omega) | omega) _ | refine Ext.trans ?_ (by assumption))))
      clear bb0 bb1 bbg Hbb
      have hb := hbx; have hb0 := hb.at0; have hb1 := hb.at1; have hbg := hb.1; have Hhb := Lib.hid hb; clear hb
      clear hx1
      have hc : ordE n a b ≠ 0 := fun hc => absurd ((codeE_zero (He.out.trans hc)).2.1) (by simp)
      have hd : (ordE n a b != 0) = true := by simp [hc]
      have Hc := Lib.hid hc
      clear hc
      go_wp2_with fail
      go_ret2
      exact ⟨by rw [ordV_no Hc.out]; rfl, (by repeat (first | exact Ext.refl _ | assumption | refine Ext.alloc ?_ _ | refine Ext.drew ?_ | refine Ext.drewN ?_ _ | refine Ext.setCell ?_ (by first | (simp; done) | (simp; omega) | omega) _ | refine Ext.trans ?_ (by assumption)))⟩
  · have Ha := Lib.hid ha
    clear ha
    have He : Hid (codeE n false = ordE n a b) := Lib.hid (by unfold ordE; rw [B_false (fun hh => by have h1 := B_true (vars2.1 hh).1; (try rw [Ha.out] at h1); simp at h1)])
    (refine wp_region_onto prog_mixed (by kernel_rfl) ?_; (repeat (go_big_quiet_step ((first | (go_at_call 98; with_reducible exact onto_callS (spec_l01In_b Ha.out _)) | (go_at_call 111; with_reducible exact onto_callX (spec_l20Code _ k n false _ (H.out.up (hx0.trans (onto_ext _ _))))))))); refine onto_end ?_; intro w1 hx1)
    rw [He.out]
    have hx : Ext w w1 := (by repeat (first | exact Ext.refl _ | assumption | refine Ext.alloc ?_ _ | refine Ext.drew ?_ | refine Ext.drewN ?_ _ | refine Ext.setCell ?_ (by first | (simp; done) | (simp; omega) | omega) _ | refine Ext.trans ?_ (by assumption)))
    have hbx := Hbb.out.ext (show Ext _ w1 from (by repeat (first | exact Ext.refl _ | assumption | refine Ext.alloc ?_ _ | refine Ext.drew ?_ | refine Ext.drewN ?_ _ | refine Ext.setCell ?_ (by first | (simp; done) | (simp; omega) | omega) _ | refine Ext.trans ?_ (by assumption))))
    clear bb0 bb1 bbg Hbb
    have hb := hbx; have hb0 := hb.at0; have hb1 := hb.at1; have hbg := hb.1; have Hhb := Lib.hid hb; clear hb
    clear hx1
    have hc : ordE n a b ≠ 0 := fun hc => absurd ((codeE_zero (He.out.trans hc)).2.1) (by simp)
    have hd : (ordE n a b != 0) = true := by simp [hc]
    have Hc := Lib.hid hc
    clear hc
    go_wp2_with fail
    go_ret2
    exact ⟨by rw [ordV_no Hc.out]; rfl, (by repeat (first | exact Ext.refl _ | assumption | refine Ext.alloc ?_ _ | refine Ext.drew ?_ | refine Ext.drewN ?_ _ | refine Ext.setCell ?_ (by first | (simp; done) | (simp; omega) | omega) _ | refine Ext.trans ?_ (by assumption)))⟩
end Go.Proofs.Ytfajmlkiidnhlaa
