/- Contracts: whether statements repair or contradict: the program's. -/
import Derived.Test.YtkpoelgaomgjlaaGx
import Derived.Test.YtkpoelgaomgjlaaRb
import Derived.Test.YtkpoelgaomgjlaaSo
import Derived.Test.YtkpoelgaomgjlaaHa
namespace Go.Proofs.Ytkpoelgaomgjlaa
set_option linter.unusedVariables false
set_option linter.unusedSimpArgs false
open Go.RowKit
attribute [local go_sem] cell_onto

noncomputable def repB (n : Net) (l : List Int) : Bool := B (Sol (giveN (fun i => HasI l i) n))
noncomputable def conB (n : Net) (l : List Int) : Bool := !B (Sol (giveN (fun i => ¬ HasI l i) n))

set_option maxHeartbeats 400000 in
theorem impl_repairs_1 (i : Int) (gb : Nat) (v : Value) (l : List Int) (w : World) (hb : w.cell? ⟨gb, 0, none⟩ = some v) (hg : gb < w.heap.size) (h : Ints w 0 w.heap.size v l) :
    Calls Try.prog 141 #[.int .i64 i, .pointer (some ⟨gb, 0, none⟩)] w (RetX (.bool (B (HasI l i))) w) := by
  obtain ⟨A, c, rfl, _, _⟩ := h.len
  have H := Lib.hid h
  clear h
  go_enter Try.func141, Try.ntmps141
  go_wp2_with fail
  refine Calls.mono (slices_Contains_ints _ l i w H.out) ?_
  rintro e w1 ⟨rfl, hx1⟩
  go_wp2_with fail
  go_ret
  exact ⟨rfl, (by repeat (first | exact Ext.refl _ | assumption | refine Ext.alloc ?_ _ | refine Ext.drew ?_ | refine Ext.drewN ?_ _ | refine Ext.setCell ?_ (by first | (simp; done) | (simp; omega) | omega) _ | refine Ext.trans ?_ (by assumption)))⟩
set_option maxHeartbeats 1000000 in
theorem impl_repairs (s k v : Value) (n : Net) (l : List Int) (w : World) (h : NetIn w s k n) (hl : Ints w 0 w.heap.size v l) (hok : NetOk n) :
    Calls Try.prog 102 #[.agg #[s, k], v] w (RetX (.bool (repB n l)) w) := by
  obtain ⟨A, c, rfl, hn, hc⟩ := hl.len
  have H := Lib.hid h
  have Hl := Lib.hid hl
  have Hok := Lib.hid hok
  have hx : Ext w ((w.alloc (.cells #[s, k] 32)).alloc (.cells #[.slice A l.length c] 36)) := (by repeat (first | exact Ext.refl _ | assumption | refine Ext.alloc ?_ _ | refine Ext.drew ?_ | refine Ext.drewN ?_ _ | refine Ext.setCell ?_ (by first | (simp; done) | (simp; omega) | omega) _ | refine Ext.trans ?_ (by assumption)))
  have Hlb : Hid (Boxed ((w.alloc (.cells #[s, k] 32)).alloc (.cells #[.slice A l.length c] 36)) (w.heap.size + 1) [.slice A l.length c]) := Lib.hid (by
    have := Boxed.new (w.alloc (.cells #[s, k] 32)) [.slice A l.length c] 36
    rwa [World.size_alloc] at this)
  have Hx := Lib.hid hx
  clear h hl hok hx
  go_enter Try.func102, Try.ntmps102
  go_wp2_with fail
  refine Calls.mono (impl_giveUp s k n 141 #[.pointer (some ⟨w.heap.size + 1, 0, none⟩)] (fun i => HasI l i) _ (H.out.up Hx.out) Hok.out Try.call141 (fun i w' _ hxx => impl_repairs_1 i (w.heap.size + 1) _ l w' ((Hlb.out.ext hxx).at0) (Hlb.out.ext hxx).1 (Hl.out.up (Hx.out.trans hxx)))) ?_
  rintro e w2 ⟨gs, gk, rfl, hx2, ho⟩
  have Ho := Lib.hid ho.net.netIn
  have Hf := Lib.hid (NetFit.of (giveN_ok (is := fun i => HasI l i) Hok.out))
  have hxw2 : Ext w w2 := Hx.out.trans hx2
  clear ho hx2
  go_wp2_with fail
  refine Calls.mono (impl_isSolvable gs gk _ _ Ho.out Hf.out) ?_
  rintro e w3 ⟨rfl, hx3⟩
  go_wp2_with fail
  go_ret
  exact ⟨rfl, (by repeat (first | exact Ext.refl _ | assumption | refine Ext.alloc ?_ _ | refine Ext.drew ?_ | refine Ext.drewN ?_ _ | refine Ext.setCell ?_ (by first | (simp; done) | (simp; omega) | omega) _ | refine Ext.trans ?_ (by assumption)))⟩
set_option maxHeartbeats 400000 in
theorem impl_contradict_1 (i : Int) (gb : Nat) (v : Value) (l : List Int) (w : World) (hb : w.cell? ⟨gb, 0, none⟩ = some v) (hg : gb < w.heap.size) (h : Ints w 0 w.heap.size v l) :
    Calls Try.prog 143 #[.int .i64 i, .pointer (some ⟨gb, 0, none⟩)] w (RetX (.bool (B (¬ HasI l i))) w) := by
  obtain ⟨A, c, rfl, _, _⟩ := h.len
  have H := Lib.hid h
  clear h
  go_enter Try.func143, Try.ntmps143
  go_wp2_with fail
  refine Calls.mono (slices_Contains_ints _ l i w H.out) ?_
  rintro e w1 ⟨rfl, hx1⟩
  go_wp2_with fail
  go_ret
  exact ⟨ret_bool (B_eq (by simp [B_not])), (by repeat (first | exact Ext.refl _ | assumption | refine Ext.alloc ?_ _ | refine Ext.drew ?_ | refine Ext.drewN ?_ _ | refine Ext.setCell ?_ (by first | (simp; done) | (simp; omega) | omega) _ | refine Ext.trans ?_ (by assumption)))⟩
set_option maxHeartbeats 1000000 in
theorem impl_contradict (s k v : Value) (n : Net) (l : List Int) (w : World) (h : NetIn w s k n) (hl : Ints w 0 w.heap.size v l) (hok : NetOk n) :
    Calls Try.prog 104 #[.agg #[s, k], v] w (RetX (.bool (conB n l)) w) := by
  obtain ⟨A, c, rfl, hn, hc⟩ := hl.len
  have H := Lib.hid h
  have Hl := Lib.hid hl
  have Hok := Lib.hid hok
  have hx : Ext w ((w.alloc (.cells #[s, k] 32)).alloc (.cells #[.slice A l.length c] 36)) := (by repeat (first | exact Ext.refl _ | assumption | refine Ext.alloc ?_ _ | refine Ext.drew ?_ | refine Ext.drewN ?_ _ | refine Ext.setCell ?_ (by first | (simp; done) | (simp; omega) | omega) _ | refine Ext.trans ?_ (by assumption)))
  have Hlb : Hid (Boxed ((w.alloc (.cells #[s, k] 32)).alloc (.cells #[.slice A l.length c] 36)) (w.heap.size + 1) [.slice A l.length c]) := Lib.hid (by
    have := Boxed.new (w.alloc (.cells #[s, k] 32)) [.slice A l.length c] 36
    rwa [World.size_alloc] at this)
  have Hx := Lib.hid hx
  clear h hl hok hx
  go_enter Try.func104, Try.ntmps104
  go_wp2_with fail
  refine Calls.mono (impl_giveUp s k n 143 #[.pointer (some ⟨w.heap.size + 1, 0, none⟩)] (fun i => ¬ HasI l i) _ (H.out.up Hx.out) Hok.out Try.call143 (fun i w' _ hxx => impl_contradict_1 i (w.heap.size + 1) _ l w' ((Hlb.out.ext hxx).at0) (Hlb.out.ext hxx).1 (Hl.out.up (Hx.out.trans hxx)))) ?_
  rintro e w2 ⟨gs, gk, rfl, hx2, ho⟩
  have Ho := Lib.hid ho.net.netIn
  have Hf := Lib.hid (NetFit.of (giveN_ok (is := fun i => ¬ HasI l i) Hok.out))
  have hxw2 : Ext w w2 := Hx.out.trans hx2
  clear ho hx2
  go_wp2_with fail
  refine Calls.mono (impl_isSolvable gs gk _ _ Ho.out Hf.out) ?_
  rintro e w3 ⟨rfl, hx3⟩
  go_wp2_with fail
  go_ret
  exact ⟨rfl, (by repeat (first | exact Ext.refl _ | assumption | refine Ext.alloc ?_ _ | refine Ext.drew ?_ | refine Ext.drewN ?_ _ | refine Ext.setCell ?_ (by first | (simp; done) | (simp; omega) | omega) _ | refine Ext.trans ?_ (by assumption)))⟩

noncomputable def isRepV (n : Net) (l : List Int) : Bool := bif B (blE n l = 0) then repB n l else false
noncomputable def doConV (n : Net) (l : List Int) : Bool := bif B (blE n l = 0) then conB n l else false
theorem isRepV_no {n : Net} {l : List Int} (h : blE n l ≠ 0) : isRepV n l = false := by unfold isRepV; rw [B_false h]; rfl
theorem isRepV_ok {n : Net} {l : List Int} (h : blE n l = 0) : isRepV n l = repB n l := by unfold isRepV; rw [B_true h]; rfl
theorem doConV_no {n : Net} {l : List Int} (h : blE n l ≠ 0) : doConV n l = false := by unfold doConV; rw [B_false h]; rfl
theorem doConV_ok {n : Net} {l : List Int} (h : blE n l = 0) : doConV n l = conB n l := by unfold doConV; rw [B_true h]; rfl
set_option maxHeartbeats 1000000 in
theorem impl_IsRepair (s k v : Value) (n : Net) (l : List Int) (w : World) (h : NetIn w s k n) (hl : Ints w 0 w.heap.size v l) :
    Calls Try.prog 47 #[.agg #[s, k], v] w (RetX (.tuple #[.bool (isRepV n l), .int .i64 (blE n l)]) w) := by
  obtain ⟨A, c, rfl, hn, hc⟩ := hl.len
  have H := Lib.hid h
  have Hl := Lib.hid hl
  clear h hl
  go_enter Try.func47, Try.ntmps47
  go_wp2_with fail
  refine Calls.mono (impl_checkBlame s k _ n l _ (H.out.up (by repeat (first | exact Ext.refl _ | assumption | refine Ext.alloc ?_ _ | refine Ext.drew ?_ | refine Ext.drewN ?_ _ | refine Ext.setCell ?_ (by first | (simp; done) | (simp; omega) | omega) _ | refine Ext.trans ?_ (by assumption)))) (Hl.out.up (by repeat (first | exact Ext.refl _ | assumption | refine Ext.alloc ?_ _ | refine Ext.drew ?_ | refine Ext.drewN ?_ _ | refine Ext.setCell ?_ (by first | (simp; done) | (simp; omega) | omega) _ | refine Ext.trans ?_ (by assumption))))) ?_
  rintro e w1 ⟨rfl, hx1⟩
  have hb := (Boxed.new w [s, k] 32).ext hx1; have hb0 := hb.at0; have hb1 := hb.at1; have hbg := hb.1; have Hhb := Lib.hid hb; clear hb
  have hx : Ext w w1 := (by repeat (first | exact Ext.refl _ | assumption | refine Ext.alloc ?_ _ | refine Ext.drew ?_ | refine Ext.drewN ?_ _ | refine Ext.setCell ?_ (by first | (simp; done) | (simp; omega) | omega) _ | refine Ext.trans ?_ (by assumption)))
  clear hx1
  by_cases hc : blE n l = 0
  · have Hc := Lib.hid hc
    have Hz := Lib.hid (blE_zero hc)
    have hd : (blE n l != 0) = false := by rw [hc]; rfl
    clear hc
    go_wp2_with fail
    refine Calls.mono (impl_repairs s k _ n l _ (H.out.up (by repeat (first | exact Ext.refl _ | assumption | refine Ext.alloc ?_ _ | refine Ext.drew ?_ | refine Ext.drewN ?_ _ | refine Ext.setCell ?_ (by first | (simp; done) | (simp; omega) | omega) _ | refine Ext.trans ?_ (by assumption)))) (Hl.out.up (by repeat (first | exact Ext.refl _ | assumption | refine Ext.alloc ?_ _ | refine Ext.drew ?_ | refine Ext.drewN ?_ _ | refine Ext.setCell ?_ (by first | (simp; done) | (simp; omega) | omega) _ | refine Ext.trans ?_ (by assumption)))) Hz.out.1) ?_
    rintro e w2 ⟨rfl, hx2⟩
    go_wp2_with fail
    go_ret2
    exact ⟨by rw [isRepV_ok Hc.out, Hc.out]; rfl, (by repeat (first | exact Ext.refl _ | assumption | refine Ext.alloc ?_ _ | refine Ext.drew ?_ | refine Ext.drewN ?_ _ | refine Ext.setCell ?_ (by first | (simp; done) | (simp; omega) | omega) _ | refine Ext.trans ?_ (by assumption)))⟩
  · have Hc := Lib.hid hc
    have hd : (blE n l != 0) = true := by simp [hc]
    clear hc
    go_wp2_with fail
    go_ret2
    exact ⟨by rw [isRepV_no Hc.out]; rfl, (by repeat (first | exact Ext.refl _ | assumption | refine Ext.alloc ?_ _ | refine Ext.drew ?_ | refine Ext.drewN ?_ _ | refine Ext.setCell ?_ (by first | (simp; done) | (simp; omega) | omega) _ | refine Ext.trans ?_ (by assumption)))⟩
set_option maxHeartbeats 1000000 in
theorem impl_DoContradict (s k v : Value) (n : Net) (l : List Int) (w : World) (h : NetIn w s k n) (hl : Ints w 0 w.heap.size v l) :
    Calls Try.prog 49 #[.agg #[s, k], v] w (RetX (.tuple #[.bool (doConV n l), .int .i64 (blE n l)]) w) := by
  obtain ⟨A, c, rfl, hn, hc⟩ := hl.len
  have H := Lib.hid h
  have Hl := Lib.hid hl
  clear h hl
  go_enter Try.func49, Try.ntmps49
  go_wp2_with fail
  refine Calls.mono (impl_checkBlame s k _ n l _ (H.out.up (by repeat (first | exact Ext.refl _ | assumption | refine Ext.alloc ?_ _ | refine Ext.drew ?_ | refine Ext.drewN ?_ _ | refine Ext.setCell ?_ (by first | (simp; done) | (simp; omega) | omega) _ | refine Ext.trans ?_ (by assumption)))) (Hl.out.up (by repeat (first | exact Ext.refl _ | assumption | refine Ext.alloc ?_ _ | refine Ext.drew ?_ | refine Ext.drewN ?_ _ | refine Ext.setCell ?_ (by first | (simp; done) | (simp; omega) | omega) _ | refine Ext.trans ?_ (by assumption))))) ?_
  rintro e w1 ⟨rfl, hx1⟩
  have hb := (Boxed.new w [s, k] 32).ext hx1; have hb0 := hb.at0; have hb1 := hb.at1; have hbg := hb.1; have Hhb := Lib.hid hb; clear hb
  have hx : Ext w w1 := (by repeat (first | exact Ext.refl _ | assumption | refine Ext.alloc ?_ _ | refine Ext.drew ?_ | refine Ext.drewN ?_ _ | refine Ext.setCell ?_ (by first | (simp; done) | (simp; omega) | omega) _ | refine Ext.trans ?_ (by assumption)))
  clear hx1
  by_cases hc : blE n l = 0
  · have Hc := Lib.hid hc
    have Hz := Lib.hid (blE_zero hc)
    have hd : (blE n l != 0) = false := by rw [hc]; rfl
    clear hc
    go_wp2_with fail
    refine Calls.mono (impl_contradict s k _ n l _ (H.out.up (by repeat (first | exact Ext.refl _ | assumption | refine Ext.alloc ?_ _ | refine Ext.drew ?_ | refine Ext.drewN ?_ _ | refine Ext.setCell ?_ (by first | (simp; done) | (simp; omega) | omega) _ | refine Ext.trans ?_ (by assumption)))) (Hl.out.up (by repeat (first | exact Ext.refl _ | assumption | refine Ext.alloc ?_ _ | refine Ext.drew ?_ | refine Ext.drewN ?_ _ | refine Ext.setCell ?_ (by first | (simp; done) | (simp; omega) | omega) _ | refine Ext.trans ?_ (by assumption)))) Hz.out.1) ?_
    rintro e w2 ⟨rfl, hx2⟩
    go_wp2_with fail
    go_ret2
    exact ⟨by rw [doConV_ok Hc.out, Hc.out]; rfl, (by repeat (first | exact Ext.refl _ | assumption | refine Ext.alloc ?_ _ | refine Ext.drew ?_ | refine Ext.drewN ?_ _ | refine Ext.setCell ?_ (by first | (simp; done) | (simp; omega) | omega) _ | refine Ext.trans ?_ (by assumption)))⟩
  · have Hc := Lib.hid hc
    have hd : (blE n l != 0) = true := by simp [hc]
    clear hc
    go_wp2_with fail
    go_ret2
    exact ⟨by rw [doConV_no Hc.out]; rfl, (by repeat (first | exact Ext.refl _ | assumption | refine Ext.alloc ?_ _ | refine Ext.drew ?_ | refine Ext.drewN ?_ _ | refine Ext.setCell ?_ (by first | (simp; done) | (simp; omega) | omega) _ | refine Ext.trans ?_ (by assumption)))⟩
end Go.Proofs.Ytkpoelgaomgjlaa
