/- Texts merged (a claim holds at most sixty files): Ha, Rp, Rq, Cf. -/
import Derived.Test.YtfmnkojjkjkdeaaGreatDoorQ3So
import Derived.Test.YtfmnkojjkjkdeaaGreatDoorQ3Hs
import Derived.Test.YtfmnkojjkjkdeaaGreatDoorQ3Gv
import Derived.Test.YtfmnkojjkjkdeaaGreatDoorQ3Fs
import Derived.Deep.RegionLaw
/- Contracts: HasSolution. -/
namespace Go.Proofs.YtfmnkojjkjkdeaaGreatDoor
set_option linter.unusedVariables false
set_option linter.unusedSimpArgs false
open Go.RowKit
attribute [local go_sem] cell_onto

noncomputable def hasV (n : Net) : Bool := bif B (codeE n true = 0) then B (Sol n) else false
theorem hasV_no {n : Net} (h : codeE n true ≠ 0) : hasV n = false := by unfold hasV; rw [B_false h]; rfl
theorem hasV_ok {n : Net} (h : codeE n true = 0) : hasV n = B (Sol n) := by unfold hasV; rw [B_true h]; rfl
theorem varsOk_nil (n : Net) : VarsOk n [] := fun i hi => absurd hi (by simp)
theorem few_of {n : Net} (h : choN 4096 n.sets ≤ 4096) : prodN n.sets ≤ 4096 := by
  have h1 : choN ((4096 : Nat) : Int) n.sets = (prodN n.sets : Int) := choN_exact (m := 4096) (l := n.sets) h
  have h2 : choN ((4096 : Nat) : Int) n.sets ≤ 4096 := h
  omega
theorem nilInts (w : World) : Ints w 0 w.heap.size (.slice none 0 0) [] := ⟨by simp [maxLen], none, 0, rfl, Nat.le_refl _, fun h => absurd h (by simp)⟩

end Go.Proofs.YtfmnkojjkjkdeaaGreatDoor

/- Contracts: whether statements repair or contradict: the program's. -/
namespace Go.Proofs.YtfmnkojjkjkdeaaGreatDoor
set_option linter.unusedVariables false
set_option linter.unusedSimpArgs false
open Go.RowKit
attribute [local go_sem] cell_onto

noncomputable def repB (n : Net) (l : List Int) : Bool := B (Sol (giveN (fun i => HasI l i) n))
noncomputable def conB (n : Net) (l : List Int) : Bool := !B (Sol (giveN (fun i => ¬ HasI l i) n))

set_option maxHeartbeats 400000 in
theorem impl_repairs_1 (i : Int) (gb : Nat) (v : Value) (l : List Int) (w : World) (hb : w.cell? ⟨gb, 0, none⟩ = some v) (hg : gb < w.heap.size) (h : Ints w 0 w.heap.size v l) :
    Calls Tryz.prog 137 #[.int .i64 i, .pointer (some ⟨gb, 0, none⟩)] w (RetX (.bool (B (HasI l i))) w) := by
  obtain ⟨A, c, rfl, _, _⟩ := h.len
  have H := Lib.hid h
  clear h
  go_enter Tryz.func137, Tryz.ntmps137
  go_wp2_with fail
  refine Calls.mono (slices_Contains_ints _ l i w H.out) ?_
  rintro e w1 ⟨rfl, hx1⟩
  go_wp2_with fail
  go_ret
  exact ⟨rfl, (by repeat (first | exact Ext.refl _ | assumption | refine Ext.alloc ?_ _ | refine Ext.drew ?_ | refine Ext.drewN ?_ _ | refine Ext.setCell ?_ (by first | (simp; done) | (simp; omega) | omega) _ | refine Ext.trans ?_ (by assumption)))⟩
set_option maxHeartbeats 1000000 in
theorem impl_repairs (s k v : Value) (n : Net) (l : List Int) (w : World) (h : NetIn w s k n) (hl : Ints w 0 w.heap.size v l) (hok : NetOk n) :
    Calls Tryz.prog 64 #[.agg #[s, k], v] w (RetX (.bool (repB n l)) w) := by
  obtain ⟨A, c, rfl, hn, hc⟩ := hl.len
  have H := Lib.hid h
  have Hl := Lib.hid hl
  have Hok := Lib.hid hok
  have hx : Ext w ((w.alloc (.cells #[s, k] 27)).alloc (.cells #[.slice A l.length c] 28)) := (by repeat (first | exact Ext.refl _ | assumption | refine Ext.alloc ?_ _ | refine Ext.drew ?_ | refine Ext.drewN ?_ _ | refine Ext.setCell ?_ (by first | (simp; done) | (simp; omega) | omega) _ | refine Ext.trans ?_ (by assumption)))
  have Hlb : Hid (Boxed ((w.alloc (.cells #[s, k] 27)).alloc (.cells #[.slice A l.length c] 28)) (w.heap.size + 1) [.slice A l.length c]) := Lib.hid (by
    have := Boxed.new (w.alloc (.cells #[s, k] 27)) [.slice A l.length c] 28
    rwa [World.size_alloc] at this)
  have Hx := Lib.hid hx
  clear h hl hok hx
  go_enter Tryz.func64, Tryz.ntmps64
  go_wp2_with fail
  refine Calls.mono (impl_giveUp s k n 137 #[.pointer (some ⟨w.heap.size + 1, 0, none⟩)] (fun i => HasI l i) _ (H.out.up Hx.out) Hok.out Tryz.call137 (fun i w' _ hxx => impl_repairs_1 i (w.heap.size + 1) _ l w' ((Hlb.out.ext hxx).at0) (Hlb.out.ext hxx).1 (Hl.out.up (Hx.out.trans hxx)))) ?_
  rintro e w2 ⟨gs, gk, rfl, hx2, ho⟩
  have Ho := Lib.hid ho.net.netIn
  have Hf := Lib.hid (NetFit.of (giveN_ok (is := fun i => HasI l i) Hok.out))
  have hxw2 : Ext w w2 := Hx.out.trans hx2
  clear ho hx2
  go_wp2_with fail
  refine Calls.mono (impl_isSolvable gs gk _ _ Ho.out Hf.out) ?_
  rintro e w3 ⟨rfl, hx3⟩
  go_wp2_with fail
  go_ret
  exact ⟨rfl, (by repeat (first | exact Ext.refl _ | assumption | refine Ext.alloc ?_ _ | refine Ext.drew ?_ | refine Ext.drewN ?_ _ | refine Ext.setCell ?_ (by first | (simp; done) | (simp; omega) | omega) _ | refine Ext.trans ?_ (by assumption)))⟩
set_option maxHeartbeats 400000 in
theorem impl_contradict_1 (i : Int) (gb : Nat) (v : Value) (l : List Int) (w : World) (hb : w.cell? ⟨gb, 0, none⟩ = some v) (hg : gb < w.heap.size) (h : Ints w 0 w.heap.size v l) :
    Calls Tryz.prog 128 #[.int .i64 i, .pointer (some ⟨gb, 0, none⟩)] w (RetX (.bool (B (¬ HasI l i))) w) := by
  obtain ⟨A, c, rfl, _, _⟩ := h.len
  have H := Lib.hid h
  clear h
  go_enter Tryz.func128, Tryz.ntmps128
  go_wp2_with fail
  refine Calls.mono (slices_Contains_ints _ l i w H.out) ?_
  rintro e w1 ⟨rfl, hx1⟩
  go_wp2_with fail
  go_ret
  exact ⟨ret_bool (B_eq (by simp [B_not])), (by repeat (first | exact Ext.refl _ | assumption | refine Ext.alloc ?_ _ | refine Ext.drew ?_ | refine Ext.drewN ?_ _ | refine Ext.setCell ?_ (by first | (simp; done) | (simp; omega) | omega) _ | refine Ext.trans ?_ (by assumption)))⟩
set_option maxHeartbeats 1000000 in
theorem impl_contradict (s k v : Value) (n : Net) (l : List Int) (w : World) (h : NetIn w s k n) (hl : Ints w 0 w.heap.size v l) (hok : NetOk n) :
    Calls Tryz.prog 57 #[.agg #[s, k], v] w (RetX (.bool (conB n l)) w) := by
  obtain ⟨A, c, rfl, hn, hc⟩ := hl.len
  have H := Lib.hid h
  have Hl := Lib.hid hl
  have Hok := Lib.hid hok
  have hx : Ext w ((w.alloc (.cells #[s, k] 27)).alloc (.cells #[.slice A l.length c] 28)) := (by repeat (first | exact Ext.refl _ | assumption | refine Ext.alloc ?_ _ | refine Ext.drew ?_ | refine Ext.drewN ?_ _ | refine Ext.setCell ?_ (by first | (simp; done) | (simp; omega) | omega) _ | refine Ext.trans ?_ (by assumption)))
  have Hlb : Hid (Boxed ((w.alloc (.cells #[s, k] 27)).alloc (.cells #[.slice A l.length c] 28)) (w.heap.size + 1) [.slice A l.length c]) := Lib.hid (by
    have := Boxed.new (w.alloc (.cells #[s, k] 27)) [.slice A l.length c] 28
    rwa [World.size_alloc] at this)
  have Hx := Lib.hid hx
  clear h hl hok hx
  go_enter Tryz.func57, Tryz.ntmps57
  go_wp2_with fail
  refine Calls.mono (impl_giveUp s k n 128 #[.pointer (some ⟨w.heap.size + 1, 0, none⟩)] (fun i => ¬ HasI l i) _ (H.out.up Hx.out) Hok.out Tryz.call128 (fun i w' _ hxx => impl_contradict_1 i (w.heap.size + 1) _ l w' ((Hlb.out.ext hxx).at0) (Hlb.out.ext hxx).1 (Hl.out.up (Hx.out.trans hxx)))) ?_
  rintro e w2 ⟨gs, gk, rfl, hx2, ho⟩
  have Ho := Lib.hid ho.net.netIn
  have Hf := Lib.hid (NetFit.of (giveN_ok (is := fun i => ¬ HasI l i) Hok.out))
  have hxw2 : Ext w w2 := Hx.out.trans hx2
  clear ho hx2
  go_wp2_with fail
  refine Calls.mono (impl_isSolvable gs gk _ _ Ho.out Hf.out) ?_
  rintro e w3 ⟨rfl, hx3⟩
  go_wp2_with fail
  go_ret
  exact ⟨rfl, (by repeat (first | exact Ext.refl _ | assumption | refine Ext.alloc ?_ _ | refine Ext.drew ?_ | refine Ext.drewN ?_ _ | refine Ext.setCell ?_ (by first | (simp; done) | (simp; omega) | omega) _ | refine Ext.trans ?_ (by assumption)))⟩

noncomputable def isRepV (n : Net) (l : List Int) : Bool := bif B (blE n l = 0) then repB n l else false
noncomputable def doConV (n : Net) (l : List Int) : Bool := bif B (blE n l = 0) then conB n l else false
theorem isRepV_no {n : Net} {l : List Int} (h : blE n l ≠ 0) : isRepV n l = false := by unfold isRepV; rw [B_false h]; rfl
theorem isRepV_ok {n : Net} {l : List Int} (h : blE n l = 0) : isRepV n l = repB n l := by unfold isRepV; rw [B_true h]; rfl
theorem doConV_no {n : Net} {l : List Int} (h : blE n l ≠ 0) : doConV n l = false := by unfold doConV; rw [B_false h]; rfl
theorem doConV_ok {n : Net} {l : List Int} (h : blE n l = 0) : doConV n l = conB n l := by unfold doConV; rw [B_true h]; rfl
set_option maxHeartbeats 1000000 in
theorem impl_IsRepair (s k v : Value) (n : Net) (l : List Int) (w : World) (h : NetIn w s k n) (hl : Ints w 0 w.heap.size v l) :
    Calls Tryz.prog 21 #[.agg #[s, k], v] w (RetX (.tuple #[.bool (isRepV n l), .int .i64 (blE n l)]) w) := by
  obtain ⟨A, c, rfl, hn, hc⟩ := hl.len
  have H := Lib.hid h
  have Hl := Lib.hid hl
  clear h hl
  go_enter Tryz.func21, Tryz.ntmps21
  go_wp2_with fail
  refine Calls.mono (impl_checkBlame s k _ n l _ (H.out.up (by repeat (first | exact Ext.refl _ | assumption | refine Ext.alloc ?_ _ | refine Ext.drew ?_ | refine Ext.drewN ?_ _ | refine Ext.setCell ?_ (by first | (simp; done) | (simp; omega) | omega) _ | refine Ext.trans ?_ (by assumption)))) (Hl.out.up (by repeat (first | exact Ext.refl _ | assumption | refine Ext.alloc ?_ _ | refine Ext.drew ?_ | refine Ext.drewN ?_ _ | refine Ext.setCell ?_ (by first | (simp; done) | (simp; omega) | omega) _ | refine Ext.trans ?_ (by assumption))))) ?_
  rintro e w1 ⟨rfl, hx1⟩
  have hb := (Boxed.new w [s, k] 27).ext hx1; have hb0 := hb.at0; have hb1 := hb.at1; have hbg := hb.1; have Hhb := Lib.hid hb; clear hb
  have hx : Ext w w1 := (by repeat (first | exact Ext.refl _ | assumption | refine Ext.alloc ?_ _ | refine Ext.drew ?_ | refine Ext.drewN ?_ _ | refine Ext.setCell ?_ (by first | (simp; done) | (simp; omega) | omega) _ | refine Ext.trans ?_ (by assumption)))
  clear hx1
  by_cases hc : blE n l = 0
  · have Hc := Lib.hid hc
    have Hz := Lib.hid (blE_zero hc)
    have hd : (blE n l != 0) = false := by rw [hc]; rfl
    clear hc
    go_wp2_with fail
    refine Calls.mono (impl_repairs s k _ n l _ (H.out.up (by repeat (first | exact Ext.refl _ | assumption | refine Ext.alloc ?_ _ | refine Ext.drew ?_ | refine Ext.drewN ?_ _ | refine Ext.setCell ?_ (by first | (simp; done) | (simp; omega) | omega) _ | refine Ext.trans ?_ (by assumption)))) (Hl.out.up (by repeat (first | exact Ext.refl _ | assumption | refine Ext.alloc ?_ _ | refine Ext.drew ?_ | refine Ext.drewN ?_ _ | refine Ext.setCell ?_ (by first | (simp; done) | (simp; omega) | omega) _ | refine Ext.trans ?_ (by assumption)))) Hz.out.1) ?_
    rintro e w2 ⟨rfl, hx2⟩
    go_wp2_with fail
    go_ret2
    exact ⟨by rw [isRepV_ok Hc.out, Hc.out]; rfl, (by repeat (first | exact Ext.refl _ | assumption | refine Ext.alloc ?_ _ | refine Ext.drew ?_ | refine Ext.drewN ?_ _ | refine Ext.setCell ?_ (by first | (simp; done) | (simp; omega) | omega) _ | refine Ext.trans ?_ (by assumption)))⟩
  · have Hc := Lib.hid hc
    have hd : (blE n l != 0) = true := by simp [hc]
    clear hc
    go_wp2_with fail
    go_ret2
    exact ⟨by rw [isRepV_no Hc.out]; rfl, (by repeat (first | exact Ext.refl _ | assumption | refine Ext.alloc ?_ _ | refine Ext.drew ?_ | refine Ext.drewN ?_ _ | refine Ext.setCell ?_ (by first | (simp; done) | (simp; omega) | omega) _ | refine Ext.trans ?_ (by assumption)))⟩
set_option maxHeartbeats 1000000 in
theorem impl_DoContradict (s k v : Value) (n : Net) (l : List Int) (w : World) (h : NetIn w s k n) (hl : Ints w 0 w.heap.size v l) :
    Calls Tryz.prog 12 #[.agg #[s, k], v] w (RetX (.tuple #[.bool (doConV n l), .int .i64 (blE n l)]) w) := by
  obtain ⟨A, c, rfl, hn, hc⟩ := hl.len
  have H := Lib.hid h
  have Hl := Lib.hid hl
  clear h hl
  go_enter Tryz.func12, Tryz.ntmps12
  go_wp2_with fail
  refine Calls.mono (impl_checkBlame s k _ n l _ (H.out.up (by repeat (first | exact Ext.refl _ | assumption | refine Ext.alloc ?_ _ | refine Ext.drew ?_ | refine Ext.drewN ?_ _ | refine Ext.setCell ?_ (by first | (simp; done) | (simp; omega) | omega) _ | refine Ext.trans ?_ (by assumption)))) (Hl.out.up (by repeat (first | exact Ext.refl _ | assumption | refine Ext.alloc ?_ _ | refine Ext.drew ?_ | refine Ext.drewN ?_ _ | refine Ext.setCell ?_ (by first | (simp; done) | (simp; omega) | omega) _ | refine Ext.trans ?_ (by assumption))))) ?_
  rintro e w1 ⟨rfl, hx1⟩
  have hb := (Boxed.new w [s, k] 27).ext hx1; have hb0 := hb.at0; have hb1 := hb.at1; have hbg := hb.1; have Hhb := Lib.hid hb; clear hb
  have hx : Ext w w1 := (by repeat (first | exact Ext.refl _ | assumption | refine Ext.alloc ?_ _ | refine Ext.drew ?_ | refine Ext.drewN ?_ _ | refine Ext.setCell ?_ (by first | (simp; done) | (simp; omega) | omega) _ | refine Ext.trans ?_ (by assumption)))
  clear hx1
  by_cases hc : blE n l = 0
  · have Hc := Lib.hid hc
    have Hz := Lib.hid (blE_zero hc)
    have hd : (blE n l != 0) = false := by rw [hc]; rfl
    clear hc
    go_wp2_with fail
    refine Calls.mono (impl_contradict s k _ n l _ (H.out.up (by repeat (first | exact Ext.refl _ | assumption | refine Ext.alloc ?_ _ | refine Ext.drew ?_ | refine Ext.drewN ?_ _ | refine Ext.setCell ?_ (by first | (simp; done) | (simp; omega) | omega) _ | refine Ext.trans ?_ (by assumption)))) (Hl.out.up (by repeat (first | exact Ext.refl _ | assumption | refine Ext.alloc ?_ _ | refine Ext.drew ?_ | refine Ext.drewN ?_ _ | refine Ext.setCell ?_ (by first | (simp; done) | (simp; omega) | omega) _ | refine Ext.trans ?_ (by assumption)))) Hz.out.1) ?_
    rintro e w2 ⟨rfl, hx2⟩
    go_wp2_with fail
    go_ret2
    exact ⟨by rw [doConV_ok Hc.out, Hc.out]; rfl, (by repeat (first | exact Ext.refl _ | assumption | refine Ext.alloc ?_ _ | refine Ext.drew ?_ | refine Ext.drewN ?_ _ | refine Ext.setCell ?_ (by first | (simp; done) | (simp; omega) | omega) _ | refine Ext.trans ?_ (by assumption)))⟩
  · have Hc := Lib.hid hc
    have hd : (blE n l != 0) = true := by simp [hc]
    clear hc
    go_wp2_with fail
    go_ret2
    exact ⟨by rw [doConV_no Hc.out]; rfl, (by repeat (first | exact Ext.refl _ | assumption | refine Ext.alloc ?_ _ | refine Ext.drew ?_ | refine Ext.drewN ?_ _ | refine Ext.setCell ?_ (by first | (simp; done) | (simp; omega) | omega) _ | refine Ext.trans ?_ (by assumption)))⟩
end Go.Proofs.YtfmnkojjkjkdeaaGreatDoor

/- Contracts: whether statements repair or contradict: the reference's. -/
namespace Go.Proofs.YtfmnkojjkjkdeaaGreatDoor
set_option linter.unusedVariables false
set_option linter.unusedSimpArgs false
open Go.RowKit
attribute [local go_sem] cell_onto

theorem gvS_congr {is js : Nat → Prop} (l : List (List Sp)) : ∀ k, (∀ i, i < k → (is i ↔ js i)) → gvS is l k = gvS js l k
  | 0, _ => rfl
  | k + 1, h => by
    have ih := gvS_congr l k (fun i hi => h i (by omega))
    show gvS is l k ++ [bif B (is k) then _ else _] = gvS js l k ++ [bif B (js k) then _ else _]
    rw [ih, B_congr (h k (by omega))]
theorem gvL_congr {is js : Nat → Prop} (N : Nat) (l : List Lk) : ∀ k, (∀ i, i < k → (is (N + i) ↔ js (N + i))) → gvL is N l k = gvL js N l k
  | 0, _ => rfl
  | k + 1, h => by
    have ih := gvL_congr N l k (fun i hi => h i (by omega))
    show (bif B (is (N + k)) then _ else _) = (bif B (js (N + k)) then _ else _)
    rw [ih, B_congr (h k (by omega))]
theorem giveN_congr {is js : Nat → Prop} {n : Net} (h : ∀ i, i < n.sets.length + n.links.length → (is i ↔ js i)) : giveN is n = giveN js n := by
  unfold giveN
  rw [gvS_congr n.sets n.sets.length (fun i hi => h i (by omega)), gvL_congr n.sets.length n.links n.links.length (fun i hi => h _ (by omega))]

/-- the statements below k that are not in l -/
noncomputable def othTo (l : List Int) : Nat → List Int
  | 0 => []
  | k + 1 => bif B (HasI l k) then othTo l k else othTo l k ++ [(k : Int)]
theorem othTo_yes {l : List Int} {k : Nat} (h : HasI l k) : othTo l (k + 1) = othTo l k := by show (bif B (HasI l k) then _ else _) = _; rw [B_true h]; rfl
theorem othTo_no {l : List Int} {k : Nat} (h : ¬ HasI l k) : othTo l (k + 1) = othTo l k ++ [(k : Int)] := by show (bif B (HasI l k) then _ else _) = _; rw [B_false h]; rfl
theorem othTo_len (l : List Int) : ∀ k, (othTo l k).length ≤ k
  | 0 => by simp [othTo]
  | k + 1 => by
    have ih := othTo_len l k
    by_cases h : HasI l k
    · rw [othTo_yes h]; omega
    · rw [othTo_no h]; simp; omega
theorem hasI_mem {l : List Int} {x : Int} : HasI l x ↔ x ∈ l := by
  constructor
  · rintro ⟨i, hi, e⟩
    unfold inAt at e
    rw [List.getD_eq_getElem?_getD, List.getElem?_eq_getElem hi] at e
    rw [← e]
    exact List.getElem_mem hi
  · intro h
    obtain ⟨i, hi, e⟩ := List.getElem_of_mem h
    refine ⟨i, hi, ?_⟩
    unfold inAt
    rw [List.getD_eq_getElem?_getD, List.getElem?_eq_getElem hi]
    exact e
theorem mem_oth {l : List Int} {x : Int} : ∀ k, x ∈ othTo l k ↔ (0 ≤ x ∧ x < k) ∧ ¬ HasI l x
  | 0 => by simp [othTo]; omega
  | k + 1 => by
    by_cases h : HasI l k
    · rw [othTo_yes h, mem_oth k]
      constructor
      · rintro ⟨⟨h1, h2⟩, h3⟩; exact ⟨⟨h1, by omega⟩, h3⟩
      · rintro ⟨⟨h1, h2⟩, h3⟩
        refine ⟨⟨h1, ?_⟩, h3⟩
        rcases Int.lt_or_eq_of_le (show x ≤ (k : Int) by omega) with e | e
        · exact e
        · rw [e] at h3; exact absurd h h3
    · rw [othTo_no h, List.mem_append, mem_oth k]
      constructor
      · rintro (⟨⟨h1, h2⟩, h3⟩ | h1)
        · exact ⟨⟨h1, by omega⟩, h3⟩
        · have e : x = (k : Int) := by simpa using h1
          subst e
          exact ⟨⟨by omega, by omega⟩, h⟩
      · rintro ⟨⟨h1, h2⟩, h3⟩
        rcases Int.lt_or_eq_of_le (show x ≤ (k : Int) by omega) with e | e
        · exact .inl ⟨⟨h1, e⟩, h3⟩
        · exact .inr (by simp [e])
noncomputable def othL (n : Net) (l : List Int) : List Int := othTo l (n.sets.length + n.links.length)
theorem oth_give (n : Net) (l : List Int) : giveN (fun i => HasI (othL n l) i) n = giveN (fun i => ¬ HasI l i) n :=
  giveN_congr (fun i hi => by
    show HasI (othTo l _) i ↔ _
    rw [hasI_mem, mem_oth]
    exact ⟨fun h => h.2, fun h => ⟨⟨by omega, by omega⟩, h⟩⟩)

theorem ints_of_owned {w : World} {b T : Nat} {v : Value} {l : List Int} (h : w.ownsRow b T 1 v l.length (cellsOf (l.length * 1) (intCell l))) : Ints w 0 w.heap.size v l := by
  obtain ⟨g, _, ho⟩ := Own.of_owned h
  have := ho.row (lo := 0) (hi := w.heap.size) (fun h0 => ⟨Nat.zero_le _, ho.lt h0⟩)
  exact this

set_option maxHeartbeats 1000000 in
theorem spec_l21Repairs (s k v : Value) (n : Net) (l : List Int) (w : World) (h : NetIn w s k n) (hl : Ints w 0 w.heap.size v l) (hok : NetOk n) (hb : blN n ≤ 256) :
    Calls Tryz.prog 66 #[.agg #[s, k], v] w (RetX (.bool (repB n l)) w) := by
  obtain ⟨A, c, rfl, hn, hc⟩ := hl.len
  have H := Lib.hid h
  have Hl := Lib.hid hl
  have Hok := Lib.hid hok
  have Hfew := Lib.hid (blame_few (is := fun i => HasI l i) hb)
  clear h hl hok
  go_enter Tryz.func66, Tryz.ntmps66
  go_wp2_with fail
  refine Calls.mono (spec_l21Without s k _ n l _ (H.out.up (by repeat (first | exact Ext.refl _ | assumption | refine Ext.alloc ?_ _ | refine Ext.drew ?_ | refine Ext.drewN ?_ _ | refine Ext.setCell ?_ (by first | (simp; done) | (simp; omega) | omega) _ | refine Ext.trans ?_ (by assumption)))) (Hl.out.up (by repeat (first | exact Ext.refl _ | assumption | refine Ext.alloc ?_ _ | refine Ext.drew ?_ | refine Ext.drewN ?_ _ | refine Ext.setCell ?_ (by first | (simp; done) | (simp; omega) | omega) _ | refine Ext.trans ?_ (by assumption)))) Hok.out) ?_
  rintro e w2 ⟨gs, gk, rfl, hx2, ho⟩
  have Ho := Lib.hid ho.net.netIn
  have Hf := Lib.hid (NetFit.of (giveN_ok (is := fun i => HasI l i) Hok.out))
  have hxw2 : Ext w w2 := (by repeat (first | exact Ext.refl _ | assumption | refine Ext.alloc ?_ _ | refine Ext.drew ?_ | refine Ext.drewN ?_ _ | refine Ext.setCell ?_ (by first | (simp; done) | (simp; omega) | omega) _ | refine Ext.trans ?_ (by assumption)))
  clear ho hx2
  go_wp2_with fail
  refine Calls.mono (spec_l20Has gs gk _ _ Ho.out Hf.out (by have := Hfew.out; omega)) ?_
  rintro e w3 ⟨rfl, hx3⟩
  go_wp2_with fail
  go_ret
  exact ⟨rfl, (by repeat (first | exact Ext.refl _ | assumption | refine Ext.alloc ?_ _ | refine Ext.drew ?_ | refine Ext.drewN ?_ _ | refine Ext.setCell ?_ (by first | (simp; done) | (simp; omega) | omega) _ | refine Ext.trans ?_ (by assumption)))⟩
set_option maxHeartbeats 2000000 in
theorem spec_l21Others (s k v : Value) (n : Net) (l : List Int) (w : World) (h : NetIn w s k n) (hl : Ints w 0 w.heap.size v l) (hok : NetOk n) :
    Calls Tryz.prog 124 #[.agg #[s, k], v] w (NewOwn 2 1 (othL n l).length (intCell (othL n l)) w) := by
  obtain ⟨A, c, rfl, hn, hc⟩ := hl.len
  have H := Lib.hid h
  have Hl := Lib.hid hl
  have h8 := hok.1
  have h20 := hok.2.1
  obtain ⟨N, hN⟩ : ∃ N, N = n.sets.length + n.links.length := ⟨_, rfl⟩
  have HN := Lib.hid hN
  have hN28 : N ≤ 28 := by omega
  clear h hl hok hN
  go_enter Tryz.func124, Tryz.ntmps124
  have nb := Boxed.new w [s, k] 27; have nb0 := nb.at0; have nb1 := nb.at1; have nbg := nb.1; have Hnb := Lib.hid nb; clear nb
  go_wp2_with fail
  go_loopg [5, 6] N (fun q u5 i wr => ∃ j : Nat, j + q = N ∧ i = .int .i64 j ∧ Ext w wr ∧ Boxed wr w.heap.size [s, k] ∧
    wr.ownsRow (w.heap.size + 1) 2 1 u5 (othTo l j).length (cellsOf ((othTo l j).length * 1) (intCell (othTo l j))))
  case atStart =>
    refine ⟨0, by omega, rfl, (by repeat (first | exact Ext.refl _ | assumption | refine Ext.alloc ?_ _ | refine Ext.drew ?_ | refine Ext.drewN ?_ _ | refine Ext.setCell ?_ (by first | (simp; done) | (simp; omega) | omega) _ | refine Ext.trans ?_ (by assumption))), Hnb.out.ext (by repeat (first | exact Ext.refl _ | assumption | refine Ext.alloc ?_ _ | refine Ext.drew ?_ | refine Ext.drewN ?_ _ | refine Ext.setCell ?_ (by first | (simp; done) | (simp; omega) | omega) _ | refine Ext.trans ?_ (by assumption))), ?_⟩
    have := World.ownsRow_made (base := w.heap.size + 1) (e := 2) (size := 1) (w.alloc (.cells #[s, k] 27)) #[] 0 (by simp) (Nat.zero_le _) rfl
    simpa [cellsOf, othTo] using this
  clear nb0 nb1 nbg Hnb
  case round =>
    obtain ⟨j, hj, rfl, hx, hnb, hown⟩ := hrel
    have nb := hnb; have nb0 := nb.at0; have nb1 := nb.at1; have nbg := nb.1; have Hnb := Lib.hid nb; clear nb
    have Hown := Lib.hid hown
    have hol := othTo_len l j
    clear hown hnb
    go_wp2_with fail
    refine Calls.mono (spec_l21Count s k n wr (H.out.up hx) ⟨by omega, by omega⟩) ?_
    rintro e w2 ⟨rfl, hx2⟩
    have e1 : (n.sets.length : Int) + n.links.length = (N : Int) := by rw [HN.out]; omega
    rw [e1]
    have hxw2 : Ext w w2 := hx.trans hx2
    have mb := Hnb.out.ext hx2; have mb0 := mb.at0; have mb1 := mb.at1; have mbg := mb.1; have Hmb := Lib.hid mb; clear mb
    have Hown2 := Lib.hid (row_ext Hown.out hx2)
    clear nb0 nb1 nbg Hnb hx2 Hown
    by_cases hlt : j < N
    · have T1 : decide ((j : Int) < (N : Int)) = true := decide_eq_true (by omega)
      have T2 : decide (j < N) = true := decide_eq_true hlt
      go_wp2_with fail
      refine Calls.mono (spec_l01Has _ l j w2 (Hl.out.up hxw2)) ?_
      rintro e w3 ⟨rfl, hx3⟩
      have hxw3 : Ext w w3 := hxw2.trans hx3
      have cb := Hmb.out.ext hx3; have cb0 := cb.at0; have cb1 := cb.at1; have cbg := cb.1; have Hcb := Lib.hid cb; clear cb
      have Hown3 := Lib.hid (row_ext Hown2.out hx3)
      clear mb0 mb1 mbg Hmb hx3 Hown2
      by_cases hh : HasI l j
      · have Hh := Lib.hid hh
        rw [B_true hh]
        clear hh
        go_wp2_with fail
        go_roundg (N - (j + 1))
        case measure => omega
        case rel => exact ⟨j + 1, by omega, by go_num, (by repeat (first | exact Ext.refl _ | assumption | refine Ext.alloc ?_ _ | refine Ext.drew ?_ | refine Ext.drewN ?_ _ | refine Ext.setCell ?_ (by first | (simp; done) | (simp; omega) | omega) _ | refine Ext.trans ?_ (by assumption))), Hcb.out, by rw [othTo_yes Hh.out]; exact Hown3.out⟩
      · have Hh := Lib.hid hh
        rw [B_false hh]
        clear hh
        go_wp2_with (at_builtin; refine wpList_append_row _ rfl _ _ 28 rfl (w.heap.size + 1) 2 1 8 Tryz.underlying28 (by kernel_rfl) (by omega) _ (othTo l j).length 1 _ rfl (.inl (row_ext Hown3.out (by repeat (first | exact Ext.refl _ | assumption | refine Ext.alloc ?_ _ | refine Ext.drew ?_ | refine Ext.drewN ?_ _ | refine Ext.setCell ?_ (by first | (simp; done) | (simp; omega) | omega) _ | refine Ext.trans ?_ (by assumption))))) (.inr (by omega)) 0 _ _ (intCell [(j : Int)]) rfl ((Boxed.new w3 [.int .i64 (j : Int)] 2).row rfl (int_cells _)) (fun _ _ => rfl) (by unfold maxLen; omega) (by omega) (by simp; omega) ?_; intro v4 w4 hown4 hput4)
        go_roundg (N - (j + 1))
        case measure => omega
        case rel =>
          have hxb : Ext w (w3.alloc (.cells #[.int .i64 (j : Int)] 2)) := (by repeat (first | exact Ext.refl _ | assumption | refine Ext.alloc ?_ _ | refine Ext.drew ?_ | refine Ext.drewN ?_ _ | refine Ext.setCell ?_ (by first | (simp; done) | (simp; omega) | omega) _ | refine Ext.trans ?_ (by assumption)))
          exact ⟨j + 1, by omega, by go_num, hput4.ext hxb (by omega), (Hcb.out.ext (show Ext w3 (w3.alloc (.cells #[.int .i64 (j : Int)] 2)) from (by repeat (first | exact Ext.refl _ | assumption | refine Ext.alloc ?_ _ | refine Ext.drew ?_ | refine Ext.drewN ?_ _ | refine Ext.setCell ?_ (by first | (simp; done) | (simp; omega) | omega) _ | refine Ext.trans ?_ (by assumption))))).off hput4.1 (fun hh => by have := hh.1; omega), by rw [othTo_no Hh.out, ← intCells_push, List.length_append]; exact hown4⟩
    · obtain rfl : j = N := by omega
      have T1 : decide ((j : Int) < (j : Int)) = false := decide_eq_false (by omega)
      go_wp2_with fail
      go_ret
      have h2 := Hown2.out
      rw [HN.out] at h2
      exact ⟨_, rfl, (by repeat (first | exact Ext.refl _ | assumption | refine Ext.alloc ?_ _ | refine Ext.drew ?_ | refine Ext.drewN ?_ _ | refine Ext.setCell ?_ (by first | (simp; done) | (simp; omega) | omega) _ | refine Ext.trans ?_ (by assumption))), ownsRow_mono h2 (by omega)⟩
set_option maxHeartbeats 2000000 in
theorem spec_l21Contradict (s k v : Value) (n : Net) (l : List Int) (w : World) (h : NetIn w s k n) (hl : Ints w 0 w.heap.size v l) (hok : NetOk n) (hb : blN n ≤ 256) :
    Calls Tryz.prog 60 #[.agg #[s, k], v] w (RetX (.bool (conB n l)) w) := by
  obtain ⟨A, c, rfl, hn, hc⟩ := hl.len
  have H := Lib.hid h
  have Hl := Lib.hid hl
  have Hok := Lib.hid hok
  have Hfew := Lib.hid (show prodN (giveN (fun i => HasI (othL n l) i) n).sets ≤ 4096 from by have := blame_few (is := fun i => HasI (othL n l) i) hb; omega)
  have Hf := Lib.hid (NetFit.of (giveN_ok (is := fun i => HasI (othL n l) i) hok))
  clear h hl hok
  go_enter Tryz.func60, Tryz.ntmps60
  go_wp2_with fail
  have nb := Boxed.new w [s, k] 27; have nb0 := nb.at0; have nb1 := nb.at1; have nbg := nb.1; have Hnb := Lib.hid nb; clear nb
  have Hn0 : Hid (Boxed (w.alloc (.cells #[s, k] 27)) w.heap.size [s, k]) := Lib.hid Hnb.out
  go_region_law (first
    | (go_simp; go_at_call 124; refine Calls.mono (spec_l21Others s k _ n l _ (H.out.up (by repeat (first | exact Ext.refl _ | assumption | refine Ext.alloc ?_ _ | refine Ext.drew ?_ | refine Ext.drewN ?_ _ | refine Ext.setCell ?_ (by first | (simp; done) | (simp; omega) | omega) _ | refine Ext.trans ?_ (by assumption)))) (Hl.out.up (by repeat (first | exact Ext.refl _ | assumption | refine Ext.alloc ?_ _ | refine Ext.drew ?_ | refine Ext.drewN ?_ _ | refine Ext.setCell ?_ (by first | (simp; done) | (simp; omega) | omega) _ | refine Ext.trans ?_ (by assumption)))) Hok.out) ?_; rintro e wc ⟨uv, rfl, hxc, huc⟩; have Huc := Lib.hid (ints_of_owned huc); have hxwc : Ext (w.alloc (.cells #[s, k] 27)) wc := (by repeat (first | exact Ext.refl _ | assumption | refine Ext.alloc ?_ _ | refine Ext.drew ?_ | refine Ext.drewN ?_ _ | refine Ext.setCell ?_ (by first | (simp; done) | (simp; omega) | omega) _ | refine Ext.trans ?_ (by assumption))); have cb := Hn0.out.ext hxwc; have cb0 := cb.at0; have cb1 := cb.at1; have cbg := cb.1; have Hcb := Lib.hid cb; clear cb; clear huc)
    | (go_simp; go_at_call 135; refine Calls.mono (spec_l21Without s k uv n (othL n l) _ (H.out.up (by repeat (first | exact Ext.refl _ | assumption | refine Ext.alloc ?_ _ | refine Ext.drew ?_ | refine Ext.drewN ?_ _ | refine Ext.setCell ?_ (by first | (simp; done) | (simp; omega) | omega) _ | refine Ext.trans ?_ (by assumption)))) (Huc.out.up (by repeat (first | exact Ext.refl _ | assumption | refine Ext.alloc ?_ _ | refine Ext.drew ?_ | refine Ext.drewN ?_ _ | refine Ext.setCell ?_ (by first | (simp; done) | (simp; omega) | omega) _ | refine Ext.trans ?_ (by assumption)))) Hok.out) ?_; rintro e wd ⟨gs, gk, rfl, hxd, ho⟩; have Ho := Lib.hid ho.net.netIn; clear ho)
    | (go_simp; go_at_call 134; refine Calls.mono (spec_l20Has gs gk _ _ (Ho.out.up (by repeat (first | exact Ext.refl _ | assumption | refine Ext.alloc ?_ _ | refine Ext.drew ?_ | refine Ext.drewN ?_ _ | refine Ext.setCell ?_ (by first | (simp; done) | (simp; omega) | omega) _ | refine Ext.trans ?_ (by assumption)))) Hf.out Hfew.out) ?_; rintro e we ⟨rfl, hxe⟩))
  all_goals
    go_wp2_with fail
    go_ret
    exact ⟨by unfold conB; rw [oth_give]; rfl, (by repeat (first | exact Ext.refl _ | assumption | refine Ext.alloc ?_ _ | refine Ext.drew ?_ | refine Ext.drewN ?_ _ | refine Ext.setCell ?_ (by first | (simp; done) | (simp; omega) | omega) _ | refine Ext.trans ?_ (by assumption)))⟩
set_option maxHeartbeats 1000000 in
theorem spec_DoContradict (s k v : Value) (n : Net) (l : List Int) (w : World) (h : NetIn w s k n) (hl : Ints w 0 w.heap.size v l) :
    Calls Tryz.prog 13 #[.agg #[s, k], v] w (RetX (.tuple #[.bool (doConV n l), .int .i64 (blE n l)]) w) := by
  obtain ⟨A, c, rfl, hn, hc⟩ := hl.len
  have H := Lib.hid h
  have Hl := Lib.hid hl
  clear h hl
  go_enter Tryz.func13, Tryz.ntmps13
  go_wp2_with fail
  refine Calls.mono (spec_l21Code s k _ n l _ (H.out.up (by repeat (first | exact Ext.refl _ | assumption | refine Ext.alloc ?_ _ | refine Ext.drew ?_ | refine Ext.drewN ?_ _ | refine Ext.setCell ?_ (by first | (simp; done) | (simp; omega) | omega) _ | refine Ext.trans ?_ (by assumption)))) (Hl.out.up (by repeat (first | exact Ext.refl _ | assumption | refine Ext.alloc ?_ _ | refine Ext.drew ?_ | refine Ext.drewN ?_ _ | refine Ext.setCell ?_ (by first | (simp; done) | (simp; omega) | omega) _ | refine Ext.trans ?_ (by assumption))))) ?_
  rintro e w1 ⟨rfl, hx1⟩
  have hb := (Boxed.new w [s, k] 27).ext hx1; have hb0 := hb.at0; have hb1 := hb.at1; have hbg := hb.1; have Hhb := Lib.hid hb; clear hb
  have hx : Ext w w1 := (by repeat (first | exact Ext.refl _ | assumption | refine Ext.alloc ?_ _ | refine Ext.drew ?_ | refine Ext.drewN ?_ _ | refine Ext.setCell ?_ (by first | (simp; done) | (simp; omega) | omega) _ | refine Ext.trans ?_ (by assumption)))
  clear hx1
  by_cases hc : blE n l = 0
  · have Hc := Lib.hid hc
    have Hz := Lib.hid (blE_zero hc)
    have hd : (blE n l != 0) = false := by rw [hc]; rfl
    clear hc
    go_wp2_with fail
    refine Calls.mono (spec_l21Contradict s k _ n l _ (H.out.up (by repeat (first | exact Ext.refl _ | assumption | refine Ext.alloc ?_ _ | refine Ext.drew ?_ | refine Ext.drewN ?_ _ | refine Ext.setCell ?_ (by first | (simp; done) | (simp; omega) | omega) _ | refine Ext.trans ?_ (by assumption)))) (Hl.out.up (by repeat (first | exact Ext.refl _ | assumption | refine Ext.alloc ?_ _ | refine Ext.drew ?_ | refine Ext.drewN ?_ _ | refine Ext.setCell ?_ (by first | (simp; done) | (simp; omega) | omega) _ | refine Ext.trans ?_ (by assumption)))) Hz.out.1 Hz.out.2.2) ?_
    rintro e w2 ⟨rfl, hx2⟩
    go_wp2_with fail
    go_ret2
    exact ⟨by rw [doConV_ok Hc.out, Hc.out]; rfl, (by repeat (first | exact Ext.refl _ | assumption | refine Ext.alloc ?_ _ | refine Ext.drew ?_ | refine Ext.drewN ?_ _ | refine Ext.setCell ?_ (by first | (simp; done) | (simp; omega) | omega) _ | refine Ext.trans ?_ (by assumption)))⟩
  · have Hc := Lib.hid hc
    have hd : (blE n l != 0) = true := by simp [hc]
    clear hc
    go_wp2_with fail
    go_ret2
    exact ⟨by rw [doConV_no Hc.out]; rfl, (by repeat (first | exact Ext.refl _ | assumption | refine Ext.alloc ?_ _ | refine Ext.drew ?_ | refine Ext.drewN ?_ _ | refine Ext.setCell ?_ (by first | (simp; done) | (simp; omega) | omega) _ | refine Ext.trans ?_ (by assumption)))⟩
end Go.Proofs.YtfmnkojjkjkdeaaGreatDoor

/- Repairs and conflicts: what the searches find. Plain Lean. -/
namespace Go.Proofs.YtfmnkojjkjkdeaaGreatDoor
set_option linter.unusedVariables false
set_option linter.unusedSimpArgs false

/-! ### nothing given up -/
theorem gvS_none {is : Nat → Prop} (h : ∀ i, ¬ is i) (l : List (List Sp)) : ∀ j, j ≤ l.length → gvS is l j = l.take j
  | 0, _ => rfl
  | j + 1, hj => by
    rw [gvS_no (h j), gvS_none h l j (by omega), List.take_succ_eq_append_getElem (by omega)]
    unfold setAt
    rw [List.getD_eq_getElem?_getD, List.getElem?_eq_getElem (by omega)]
    rfl
theorem gvL_none {is : Nat → Prop} (h : ∀ i, ¬ is i) (N : Nat) (l : List Lk) : ∀ j, j ≤ l.length → gvL is N l j = l.take j
  | 0, _ => rfl
  | j + 1, hj => by
    rw [gvL_no (h _), gvL_none h N l j (by omega), List.take_succ_eq_append_getElem (by omega)]
    unfold lkAt
    rw [List.getD_eq_getElem?_getD, List.getElem?_eq_getElem (by omega)]
    rfl
theorem giveN_none {is : Nat → Prop} (h : ∀ i, ¬ is i) (n : Net) : giveN is n = n := by
  unfold giveN
  rw [gvS_none h _ _ (Nat.le_refl _), gvL_none h _ _ _ (Nat.le_refl _), List.take_length, List.take_length]
theorem hasI_nil (x : Int) : ¬ HasI [] x := fun ⟨i, hi, _⟩ => by simp at hi
theorem repB_nil (n : Net) : repB n [] = B (Sol n) := by unfold repB; rw [giveN_none (fun i => hasI_nil _)]

/-! ### the first that .. -/
noncomputable def firstP (p : Nat → Prop) : Nat → Nat → Nat
  | 0, i => i
  | f + 1, i => bif B (p i) then i else firstP p f (i + 1)
theorem firstP_eq {p : Nat → Prop} : ∀ (f i j : Nat), i ≤ j → j < i + f → (∀ k, i ≤ k → k < j → ¬ p k) → p j → firstP p f i = j
  | 0, i, j, h1, h2, _, _ => by omega
  | f + 1, i, j, h1, h2, h3, h4 => by
    show (bif B (p i) then i else firstP p f (i + 1)) = j
    by_cases e : i = j
    · subst e; rw [B_true h4]; rfl
    · rw [B_false (h3 i (Nat.le_refl _) (by omega))]
      exact firstP_eq f (i + 1) j (by omega) (by omega) (fun k hk => h3 k (by omega)) h4
def allS (n : Net) : Nat := n.sets.length + n.links.length
def Rep1 (n : Net) (s : Nat) : Prop := repB n [(s : Int)] = true
def Rep2 (n : Net) (s t : Nat) : Prop := repB n [(s : Int), (t : Int)] = true
def RepP (n : Net) (s : Nat) : Prop := ∃ t, s < t ∧ t < allS n ∧ Rep2 n s t
noncomputable def smE (n : Net) : Int := bif B (blE n [] = 0) then (bif B (Sol n ∨ (∃ s, s < allS n ∧ Rep1 n s) ∨ ∃ s, s < allS n ∧ RepP n s) then 0 else 4) else blE n []
noncomputable def sm1 (n : Net) : Nat := firstP (Rep1 n) (allS n) 0
noncomputable def sm2 (n : Net) : Nat := firstP (RepP n) (allS n) 0
noncomputable def sm3 (n : Net) : Nat := firstP (fun t => sm2 n < t ∧ Rep2 n (sm2 n) t) (allS n) 0
noncomputable def smL (n : Net) : List Int := bif B (blE n [] = 0) then (bif B (Sol n) then [] else bif B (∃ s, s < allS n ∧ Rep1 n s) then [(sm1 n : Int)] else bif B (∃ s, s < allS n ∧ RepP n s) then [(sm2 n : Int), (sm3 n : Int)] else []) else []
theorem sm_code {n : Net} (h : blE n [] ≠ 0) : smE n = blE n [] ∧ smL n = [] := by unfold smE smL; rw [B_false h]; exact ⟨rfl, rfl⟩
theorem sm_sol {n : Net} (h : blE n [] = 0) (h2 : Sol n) : smE n = 0 ∧ smL n = [] := by unfold smE smL; rw [B_true h, B_true h2, B_true (.inl h2)]; exact ⟨rfl, rfl⟩
theorem sm_one {n : Net} {s : Nat} (h : blE n [] = 0) (h2 : ¬ Sol n) (hs : s < allS n) (hr : Rep1 n s) (hl : ∀ k, k < s → ¬ Rep1 n k) : smE n = 0 ∧ smL n = [(s : Int)] := by
  have e : sm1 n = s := firstP_eq (allS n) 0 s (by omega) (by omega) (fun k _ hk => hl k hk) hr
  unfold smE smL
  rw [B_true h, B_false h2, B_true (show ∃ s, s < allS n ∧ Rep1 n s from ⟨s, hs, hr⟩), B_true (.inr (.inl ⟨s, hs, hr⟩)), e]
  exact ⟨rfl, rfl⟩
theorem sm_two {n : Net} {s t : Nat} (h : blE n [] = 0) (h2 : ¬ Sol n) (h3 : ∀ k, k < allS n → ¬ Rep1 n k) (hs : s < t) (ht : t < allS n) (hr : Rep2 n s t) (hl : ∀ k, k < s → ¬ RepP n k) (hl2 : ∀ k, s < k → k < t → ¬ Rep2 n s k) :
    smE n = 0 ∧ smL n = [(s : Int), (t : Int)] := by
  have hp : RepP n s := ⟨t, hs, ht, hr⟩
  have e : sm2 n = s := firstP_eq (allS n) 0 s (by omega) (by omega) (fun k _ hk => hl k hk) hp
  have e2 : sm3 n = t := by
    unfold sm3
    rw [e]
    exact firstP_eq (allS n) 0 t (by omega) (by omega) (fun k _ hk hh => hl2 k hh.1 hk hh.2) ⟨hs, hr⟩
  have h1 : ¬ ∃ s, s < allS n ∧ Rep1 n s := fun ⟨k, hk, hh⟩ => h3 k hk hh
  unfold smE smL
  rw [B_true h, B_false h2, B_false h1, B_true (show ∃ s, s < allS n ∧ RepP n s from ⟨s, by omega, hp⟩), B_true (.inr (.inr ⟨s, by omega, hp⟩)), e, e2]
  exact ⟨rfl, rfl⟩
theorem sm_none {n : Net} (h : blE n [] = 0) (h2 : ¬ Sol n) (h3 : ∀ k, k < allS n → ¬ Rep1 n k) (h4 : ∀ k, k < allS n → ¬ RepP n k) : smE n = 4 ∧ smL n = [] := by
  have h1 : ¬ ∃ s, s < allS n ∧ Rep1 n s := fun ⟨k, hk, hh⟩ => h3 k hk hh
  have h5 : ¬ ∃ s, s < allS n ∧ RepP n s := fun ⟨k, hk, hh⟩ => h4 k hk hh
  unfold smE smL
  rw [B_true h, B_false h2, B_false h1, B_false h5, B_false (fun hh => hh.elim h2 (fun hh => hh.elim h1 h5))]
  exact ⟨rfl, rfl⟩
theorem smL_small (n : Net) : (smL n).length ≤ 1048576 := by
  unfold smL
  cases B (blE n [] = 0) <;> cases B (Sol n) <;> cases B (∃ s, s < allS n ∧ Rep1 n s) <;> cases B (∃ s, s < allS n ∧ RepP n s) <;> simp

/-! ### disputed statements -/
noncomputable def dispTo (n : Net) : Nat → List Int
  | 0 => []
  | k + 1 => bif B (Rep1 n k) then dispTo n k ++ [(k : Int)] else dispTo n k
theorem dispTo_yes {n : Net} {k : Nat} (h : Rep1 n k) : dispTo n (k + 1) = dispTo n k ++ [(k : Int)] := by show (bif B (Rep1 n k) then _ else _) = _; rw [B_true h]; rfl
theorem dispTo_no {n : Net} {k : Nat} (h : ¬ Rep1 n k) : dispTo n (k + 1) = dispTo n k := by show (bif B (Rep1 n k) then _ else _) = _; rw [B_false h]; rfl
theorem dispTo_len (n : Net) : ∀ k, (dispTo n k).length ≤ k
  | 0 => by simp [dispTo]
  | k + 1 => by
    have ih := dispTo_len n k
    by_cases h : Rep1 n k
    · rw [dispTo_yes h]; simp; omega
    · rw [dispTo_no h]; omega
noncomputable def dispL (n : Net) : List Int := bif B (blE n [] = 0) then dispTo n (allS n) else []
theorem dispL_no {n : Net} (h : blE n [] ≠ 0) : dispL n = [] := by unfold dispL; rw [B_false h]; rfl
theorem dispL_ok {n : Net} (h : blE n [] = 0) : dispL n = dispTo n (allS n) := by unfold dispL; rw [B_true h]; rfl
theorem dispL_small (n : Net) : (dispL n).length ≤ 1048576 := by
  by_cases h : blE n [] = 0
  · rw [dispL_ok h]
    have h1 := dispTo_len n (allS n)
    have h2 := (blE_zero h).1
    have h3 := h2.1
    have h4 := h2.2.1
    unfold allS at *
    omega
  · rw [dispL_no h]; exact Nat.zero_le _

/-! ### conflicts -/
def ConfP (n : Net) (l : List Int) : Prop := conB n l = true ∧ ∀ i, i < l.length → conB n (l.eraseIdx i) = false
noncomputable def confV (n : Net) (l : List Int) : Bool := bif B (blE n l = 0) then B (ConfP n l) else false
theorem confV_no {n : Net} {l : List Int} (h : blE n l ≠ 0) : confV n l = false := by unfold confV; rw [B_false h]; rfl
theorem confV_ok {n : Net} {l : List Int} (h : blE n l = 0) : confV n l = B (ConfP n l) := by unfold confV; rw [B_true h]; rfl
/-- the numbers k, k + 1, .., c of them -/
def rgI : Nat → Nat → List Int
  | _, 0 => []
  | k, c + 1 => (k : Int) :: rgI (k + 1) c
theorem rgI_len : ∀ k c, (rgI k c).length = c
  | _, 0 => rfl
  | k, c + 1 => by simp [rgI, rgI_len]
theorem rgI_snoc : ∀ k c, rgI k (c + 1) = rgI k c ++ [((k + c : Nat) : Int)]
  | k, 0 => by simp [rgI]
  | k, c + 1 => by
    show (k : Int) :: rgI (k + 1) (c + 1) = ((k : Int) :: rgI (k + 1) c) ++ _
    rw [rgI_snoc (k + 1) c]
    simp
    omega
theorem mem_rgI {x : Int} : ∀ {k c : Nat}, x ∈ rgI k c ↔ (k : Int) ≤ x ∧ x < (k : Int) + c
  | k, 0 => by simp only [rgI, List.not_mem_nil, false_iff]; omega
  | k, c + 1 => by
    rw [rgI, List.mem_cons, mem_rgI]
    omega
theorem erase_mid (a b : List Int) (x : Int) : (a ++ x :: b).eraseIdx a.length = a ++ b := by
  induction a with
  | nil => rfl
  | cons y a ih => simp [ih]
/-- what is kept when the first k statements have been tried -/
noncomputable def kept (n : Net) : Nat → List Int
  | 0 => []
  | k + 1 => bif conB n (kept n k ++ rgI (k + 1) (allS n - (k + 1))) then kept n k else kept n k ++ [(k : Int)]
theorem kept_mem (n : Net) : ∀ k x, x ∈ kept n k → 0 ≤ x ∧ x < k
  | 0, x, h => by simp [kept] at h
  | k + 1, x, h => by
    unfold kept at h
    cases hb : conB n (kept n k ++ rgI (k + 1) (allS n - (k + 1)))
    · rw [hb] at h
      rcases List.mem_append.1 h with h | h
      · have := kept_mem n k x h; omega
      · have e : x = (k : Int) := by simpa using h
        omega
    · rw [hb] at h
      have := kept_mem n k x h; omega
theorem kept_len (n : Net) : ∀ k, (kept n k).length ≤ k
  | 0 => by simp [kept]
  | k + 1 => by
    have ih := kept_len n k
    unfold kept
    cases conB n (kept n k ++ rgI (k + 1) (allS n - (k + 1)))
    · show (kept n k ++ [(k : Int)]).length ≤ _
      simp; omega
    · show (kept n k).length ≤ _
      omega
noncomputable def outL (n : Net) (k : Nat) : List Int := kept n k ++ rgI k (allS n - k)
theorem outL_at {n : Net} {k : Nat} (h : k < allS n) : outL n k = kept n k ++ (k : Int) :: rgI (k + 1) (allS n - (k + 1)) := by
  unfold outL
  rw [show allS n - k = (allS n - (k + 1)) + 1 by omega]
  rfl
theorem outL_drop {n : Net} {k : Nat} (h : k < allS n) : (outL n k).eraseIdx (kept n k).length = kept n k ++ rgI (k + 1) (allS n - (k + 1)) := by rw [outL_at h, erase_mid]
theorem outL_yes {n : Net} {k : Nat} (h : k < allS n) (hc : conB n ((outL n k).eraseIdx (kept n k).length) = true) : outL n (k + 1) = (outL n k).eraseIdx (kept n k).length ∧ kept n (k + 1) = kept n k := by
  rw [outL_drop h] at hc ⊢
  have e : kept n (k + 1) = kept n k := by
    show (bif conB n (kept n k ++ rgI (k + 1) (allS n - (k + 1))) then kept n k else kept n k ++ [(k : Int)]) = _
    rw [hc]; rfl
  unfold outL
  rw [e]
  exact ⟨rfl, rfl⟩
theorem outL_no {n : Net} {k : Nat} (h : k < allS n) (hc : conB n ((outL n k).eraseIdx (kept n k).length) = false) : outL n (k + 1) = outL n k ∧ (kept n (k + 1)).length = (kept n k).length + 1 := by
  rw [outL_drop h] at hc
  have e : kept n (k + 1) = kept n k ++ [(k : Int)] := by
    show (bif conB n (kept n k ++ rgI (k + 1) (allS n - (k + 1))) then kept n k else kept n k ++ [(k : Int)]) = _
    rw [hc]; rfl
  rw [outL_at h]
  unfold outL
  rw [e]
  exact ⟨by simp, by simp⟩
theorem outL_end (n : Net) : outL n (allS n) = kept n (allS n) := by
  unfold outL
  rw [Nat.sub_self]
  simp [rgI]
theorem outL_zero (n : Net) : outL n 0 = rgI 0 (allS n) := rfl
theorem outL_len (n : Net) (k : Nat) : (outL n k).length = (kept n k).length + (allS n - k) := by unfold outL; rw [List.length_append, rgI_len]
/-- where a statement not yet tried stands -/
theorem outL_index {n : Net} {k : Nat} (h : k < allS n) : inAt (outL n k) (kept n k).length = (k : Int) ∧ ∀ i, i < (kept n k).length → inAt (outL n k) i ≠ (k : Int) := by
  rw [outL_at h]
  constructor
  · unfold inAt
    rw [List.getD_eq_getElem?_getD, List.getElem?_append_right (Nat.le_refl _), Nat.sub_self]
    rfl
  · intro i hi e
    unfold inAt at e
    rw [List.getD_eq_getElem?_getD, List.getElem?_append_left hi, List.getElem?_eq_getElem hi] at e
    have := kept_mem n k _ (List.getElem_mem hi)
    have e2 : (kept n k)[i] = (k : Int) := e
    omega
/-- all statements contradict exactly if there is no solution -/
theorem conB_all (n : Net) : conB n (rgI 0 (allS n)) = !B (Sol n) := by
  unfold conB
  have e : giveN (fun i => ¬ HasI (rgI 0 (allS n)) i) n = n := by
    rw [giveN_congr (js := fun _ => False) (fun i hi => by
      rw [hasI_mem, mem_rgI]
      constructor
      · intro hh
        refine hh ⟨by omega, ?_⟩
        unfold allS
        omega
      · intro hh; exact hh.elim)]
    exact giveN_none (fun _ h => h) n
  rw [e]
theorem othTo_nil : ∀ k, othTo [] k = rgI 0 k
  | 0 => rfl
  | k + 1 => by rw [othTo_no (hasI_nil _), othTo_nil k, rgI_snoc]; simp
noncomputable def fcE (n : Net) : Int := bif B (blE n [] = 0) then (bif B (Sol n) then 4 else 0) else blE n []
noncomputable def fcL (n : Net) : List Int := bif B (blE n [] = 0) then (bif B (Sol n) then [] else outL n (allS n)) else []
theorem fc_code {n : Net} (h : blE n [] ≠ 0) : fcE n = blE n [] ∧ fcL n = [] := by unfold fcE fcL; rw [B_false h]; exact ⟨rfl, rfl⟩
theorem fc_sol {n : Net} (h : blE n [] = 0) (h2 : Sol n) : fcE n = 4 ∧ fcL n = [] := by unfold fcE fcL; rw [B_true h, B_true h2]; exact ⟨rfl, rfl⟩
theorem fc_ok {n : Net} (h : blE n [] = 0) (h2 : ¬ Sol n) : fcE n = 0 ∧ fcL n = outL n (allS n) := by unfold fcE fcL; rw [B_true h, B_false h2]; exact ⟨rfl, rfl⟩
theorem fcL_small (n : Net) : (fcL n).length ≤ 1048576 := by
  by_cases h : blE n [] = 0
  · by_cases h2 : Sol n
    · rw [(fc_sol h h2).2]; exact Nat.zero_le _
    · rw [(fc_ok h h2).2, outL_end]
      have h1 := kept_len n (allS n)
      have h2 := (blE_zero h).1
      have h3 := h2.1
      have h4 := h2.2.1
      unfold allS at *
      omega
  · rw [(fc_code h).2]; exact Nat.zero_le _
end Go.Proofs.YtfmnkojjkjkdeaaGreatDoor
