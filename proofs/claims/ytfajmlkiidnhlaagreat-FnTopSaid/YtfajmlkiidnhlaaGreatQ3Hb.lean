/- Texts merged (a claim holds at most sixty files): Hb, Rp, Ys, Rq. -/
import Derived.Test.YtfajmlkiidnhlaaGreatQ3Ha
import Derived.Test.YtfajmlkiidnhlaaGreatQ3V
import Derived.Test.YtfajmlkiidnhlaaGreatQ3Fs
import Derived.Test.YtfajmlkiidnhlaaGreatQ3So
import Derived.Test.YtfajmlkiidnhlaaGreatQ3Zs
import Derived.Deep.RegionLaw
/- Contracts: CertainOrder. -/
namespace Go.Proofs.YtfajmlkiidnhlaaGreat
set_option linter.unusedVariables false
set_option linter.unusedSimpArgs false
open Go.RowKit
attribute [local go_sem] cell_onto

noncomputable def ordE (n : Net) (a b : Int) : Int := codeE n (B (VarsOk n [a, b]))
def ordN (n : Net) (a b : Int) : Net := ⟨n.sets, n.links ++ [⟨b, a, 0, 730499⟩]⟩
noncomputable def ordV (n : Net) (a b : Int) : Bool := bif B (ordE n a b = 0) then (bif B (a = b) then !B (Sol n) else !B (Sol (ordN n a b))) else false
theorem ordV_no {n : Net} {a b : Int} (h : ordE n a b ≠ 0) : ordV n a b = false := by unfold ordV; rw [B_false h]; rfl
theorem ordV_same {n : Net} {a b : Int} (h : ordE n a b = 0) (h2 : a = b) : ordV n a b = !B (Sol n) := by unfold ordV; rw [B_true h, B_true h2]; rfl
theorem ordV_two {n : Net} {a b : Int} (h : ordE n a b = 0) (h2 : ¬ a = b) : ordV n a b = !B (Sol (ordN n a b)) := by unfold ordV; rw [B_true h, B_false h2]; rfl
theorem vars2 {n : Net} {a b : Int} : VarsOk n [a, b] ↔ (0 ≤ a ∧ a ≤ (n.sets.length : Int) - 1) ∧ (0 ≤ b ∧ b ≤ (n.sets.length : Int) - 1) := by
  constructor
  · intro h
    exact ⟨h 0 (by simp), h 1 (by simp)⟩
  · rintro ⟨h1, h2⟩ i hi
    match i, hi with
    | 0, _ => exact h1
    | 1, _ => exact h2
theorem ordN_fit {n : Net} {a b : Int} (h : NetOk n) (hv : VarsOk n [a, b]) (hne : ¬ a = b) : NetFit (ordN n a b) := by
  have hf := NetFit.of h
  obtain ⟨h1, h2⟩ := vars2.1 hv
  refine ⟨hf.s8, ?_, ?_, hf.sps, hf.fit⟩
  · show (n.links ++ [_]).length ≤ 21
    have := h.2.1
    simp
    omega
  · intro j hj
    have hj' : j < n.links.length + 1 := by simpa [ordN] using hj
    show LkOk (lkAt (n.links ++ [_]) j) n.sets.length
    rw [lkAt_push _ _ hj']
    by_cases e : j = n.links.length
    · rw [if_pos e]
      exact ⟨h2, h1, fun e => hne e.symm, ⟨by show (-730499 : Int) ≤ 0; omega, by show (0 : Int) ≤ 730499; omega⟩, ⟨by show (-730499 : Int) ≤ 730499; omega, Int.le_refl _⟩, by show (0 : Int) ≤ 730499; omega⟩
    · rw [if_neg e]
      exact h.2.2.2 j (by omega)
theorem ints2 (w : World) (a b : Int) (T : TypeId) : Ints (w.alloc (.cells #[.int .i64 a, .int .i64 b] T)) 0 (w.alloc (.cells #[.int .i64 a, .int .i64 b] T)).heap.size (.slice (some ⟨w.heap.size, 0, none⟩) 2 2) [a, b] :=
  have h := Boxed.new w [.int .i64 a, .int .i64 b] T
  ⟨by simp [maxLen], _, 2, rfl, Nat.le_refl _, fun _ => ⟨w.heap.size, 0, rfl, Nat.zero_le _, h.1, fun i hi => by
    rw [Nat.zero_add]
    have hi' : i < 2 := by simpa using hi
    match i, hi' with
    | 0, _ => exact (h.2 0 _ rfl).1
    | 1, _ => exact (h.2 1 _ rfl).1⟩⟩

end Go.Proofs.YtfajmlkiidnhlaaGreat

/- Contracts: whether statements repair or contradict: the program's. -/
namespace Go.Proofs.YtfajmlkiidnhlaaGreat
set_option linter.unusedVariables false
set_option linter.unusedSimpArgs false
open Go.RowKit
attribute [local go_sem] cell_onto

noncomputable def repB (n : Net) (l : List Int) : Bool := B (Sol (giveN (fun i => HasI l i) n))
noncomputable def conB (n : Net) (l : List Int) : Bool := !B (Sol (giveN (fun i => ¬ HasI l i) n))

set_option maxHeartbeats 400000 in
theorem impl_repairs_1 (i : Int) (gb : Nat) (v : Value) (l : List Int) (w : World) (hb : w.cell? ⟨gb, 0, none⟩ = some v) (hg : gb < w.heap.size) (h : Ints w 0 w.heap.size v l) :
    Calls Tryz.prog 107 #[.int .i64 i, .pointer (some ⟨gb, 0, none⟩)] w (RetX (.bool (B (HasI l i))) w) := by
  obtain ⟨A, c, rfl, _, _⟩ := h.len
  have H := Lib.hid h
  clear h
  go_enter Tryz.func107, Tryz.ntmps107
  go_wp2_with fail
  refine Calls.mono (slices_Contains_ints _ l i w H.out) ?_
  rintro e w1 ⟨rfl, hx1⟩
  go_wp2_with fail
  go_ret
  exact ⟨rfl, (by repeat (first | exact Ext.refl _ | assumption | refine Ext.alloc ?_ _ | refine Ext.drew ?_ | refine Ext.drewN ?_ _ | refine Ext.setCell ?_ (by first | (simp; done) | (simp; omega) | omega) _ | refine Ext.trans ?_ (by assumption)))⟩
set_option maxHeartbeats 1000000 in
theorem impl_repairs (s k v : Value) (n : Net) (l : List Int) (w : World) (h : NetIn w s k n) (hl : Ints w 0 w.heap.size v l) (hok : NetOk n) :
    Calls Tryz.prog 52 #[.agg #[s, k], v] w (RetX (.bool (repB n l)) w) := by
  obtain ⟨A, c, rfl, hn, hc⟩ := hl.len
  have H := Lib.hid h
  have Hl := Lib.hid hl
  have Hok := Lib.hid hok
  have hx : Ext w ((w.alloc (.cells #[s, k] 27)).alloc (.cells #[.slice A l.length c] 31)) := (by repeat (first | exact Ext.refl _ | assumption | refine Ext.alloc ?_ _ | refine Ext.drew ?_ | refine Ext.drewN ?_ _ | refine Ext.setCell ?_ (by first | (simp; done) | (simp; omega) | omega) _ | refine Ext.trans ?_ (by assumption)))
  have Hlb : Hid (Boxed ((w.alloc (.cells #[s, k] 27)).alloc (.cells #[.slice A l.length c] 31)) (w.heap.size + 1) [.slice A l.length c]) := Lib.hid (by
    have := Boxed.new (w.alloc (.cells #[s, k] 27)) [.slice A l.length c] 31
    rwa [World.size_alloc] at this)
  have Hx := Lib.hid hx
  clear h hl hok hx
  go_enter Tryz.func52, Tryz.ntmps52
  go_wp2_with fail
  refine Calls.mono (impl_giveUp s k n 107 #[.pointer (some ⟨w.heap.size + 1, 0, none⟩)] (fun i => HasI l i) _ (H.out.up Hx.out) Hok.out Tryz.call107 (fun i w' _ hxx => impl_repairs_1 i (w.heap.size + 1) _ l w' ((Hlb.out.ext hxx).at0) (Hlb.out.ext hxx).1 (Hl.out.up (Hx.out.trans hxx)))) ?_
  rintro e w2 ⟨gs, gk, rfl, hx2, ho⟩
  have Ho := Lib.hid ho.net.netIn
  have Hf := Lib.hid (NetFit.of (giveN_ok (is := fun i => HasI l i) Hok.out))
  have hxw2 : Ext w w2 := Hx.out.trans hx2
  clear ho hx2
  go_wp2_with fail
  refine Calls.mono (impl_isSolvable gs gk _ _ Ho.out Hf.out) ?_
  rintro e w3 ⟨rfl, hx3⟩
  go_wp2_with fail
  go_ret
  exact ⟨rfl, (by repeat (first | exact Ext.refl _ | assumption | refine Ext.alloc ?_ _ | refine Ext.drew ?_ | refine Ext.drewN ?_ _ | refine Ext.setCell ?_ (by first | (simp; done) | (simp; omega) | omega) _ | refine Ext.trans ?_ (by assumption)))⟩
set_option maxHeartbeats 400000 in
theorem impl_contradict_1 (i : Int) (gb : Nat) (v : Value) (l : List Int) (w : World) (hb : w.cell? ⟨gb, 0, none⟩ = some v) (hg : gb < w.heap.size) (h : Ints w 0 w.heap.size v l) :
    Calls Tryz.prog 99 #[.int .i64 i, .pointer (some ⟨gb, 0, none⟩)] w (RetX (.bool (B (¬ HasI l i))) w) := by
  obtain ⟨A, c, rfl, _, _⟩ := h.len
  have H := Lib.hid h
  clear h
  go_enter Tryz.func99, Tryz.ntmps99
  go_wp2_with fail
  refine Calls.mono (slices_Contains_ints _ l i w H.out) ?_
  rintro e w1 ⟨rfl, hx1⟩
  go_wp2_with fail
  go_ret
  exact ⟨ret_bool (B_eq (by simp [B_not])), (by repeat (first | exact Ext.refl _ | assumption | refine Ext.alloc ?_ _ | refine Ext.drew ?_ | refine Ext.drewN ?_ _ | refine Ext.setCell ?_ (by first | (simp; done) | (simp; omega) | omega) _ | refine Ext.trans ?_ (by assumption)))⟩
set_option maxHeartbeats 1000000 in
theorem impl_contradict (s k v : Value) (n : Net) (l : List Int) (w : World) (h : NetIn w s k n) (hl : Ints w 0 w.heap.size v l) (hok : NetOk n) :
    Calls Tryz.prog 47 #[.agg #[s, k], v] w (RetX (.bool (conB n l)) w) := by
  obtain ⟨A, c, rfl, hn, hc⟩ := hl.len
  have H := Lib.hid h
  have Hl := Lib.hid hl
  have Hok := Lib.hid hok
  have hx : Ext w ((w.alloc (.cells #[s, k] 27)).alloc (.cells #[.slice A l.length c] 31)) := (by repeat (first | exact Ext.refl _ | assumption | refine Ext.alloc ?_ _ | refine Ext.drew ?_ | refine Ext.drewN ?_ _ | refine Ext.setCell ?_ (by first | (simp; done) | (simp; omega) | omega) _ | refine Ext.trans ?_ (by assumption)))
  have Hlb : Hid (Boxed ((w.alloc (.cells #[s, k] 27)).alloc (.cells #[.slice A l.length c] 31)) (w.heap.size + 1) [.slice A l.length c]) := Lib.hid (by
    have := Boxed.new (w.alloc (.cells #[s, k] 27)) [.slice A l.length c] 31
    rwa [World.size_alloc] at this)
  have Hx := Lib.hid hx
  clear h hl hok hx
  go_enter Tryz.func47, Tryz.ntmps47
  go_wp2_with fail
  refine Calls.mono (impl_giveUp s k n 99 #[.pointer (some ⟨w.heap.size + 1, 0, none⟩)] (fun i => ¬ HasI l i) _ (H.out.up Hx.out) Hok.out Tryz.call99 (fun i w' _ hxx => impl_contradict_1 i (w.heap.size + 1) _ l w' ((Hlb.out.ext hxx).at0) (Hlb.out.ext hxx).1 (Hl.out.up (Hx.out.trans hxx)))) ?_
  rintro e w2 ⟨gs, gk, rfl, hx2, ho⟩
  have Ho := Lib.hid ho.net.netIn
  have Hf := Lib.hid (NetFit.of (giveN_ok (is := fun i => ¬ HasI l i) Hok.out))
  have hxw2 : Ext w w2 := Hx.out.trans hx2
  clear ho hx2
  go_wp2_with fail
  refine Calls.mono (impl_isSolvable gs gk _ _ Ho.out Hf.out) ?_
  rintro e w3 ⟨rfl, hx3⟩
  go_wp2_with fail
  go_ret
  exact ⟨rfl, (by repeat (first | exact Ext.refl _ | assumption | refine Ext.alloc ?_ _ | refine Ext.drew ?_ | refine Ext.drewN ?_ _ | refine Ext.setCell ?_ (by first | (simp; done) | (simp; omega) | omega) _ | refine Ext.trans ?_ (by assumption)))⟩

noncomputable def isRepV (n : Net) (l : List Int) : Bool := bif B (blE n l = 0) then repB n l else false
noncomputable def doConV (n : Net) (l : List Int) : Bool := bif B (blE n l = 0) then conB n l else false
theorem isRepV_no {n : Net} {l : List Int} (h : blE n l ≠ 0) : isRepV n l = false := by unfold isRepV; rw [B_false h]; rfl
theorem isRepV_ok {n : Net} {l : List Int} (h : blE n l = 0) : isRepV n l = repB n l := by unfold isRepV; rw [B_true h]; rfl
theorem doConV_no {n : Net} {l : List Int} (h : blE n l ≠ 0) : doConV n l = false := by unfold doConV; rw [B_false h]; rfl
theorem doConV_ok {n : Net} {l : List Int} (h : blE n l = 0) : doConV n l = conB n l := by unfold doConV; rw [B_true h]; rfl
set_option maxHeartbeats 1000000 in
theorem impl_IsRepair (s k v : Value) (n : Net) (l : List Int) (w : World) (h : NetIn w s k n) (hl : Ints w 0 w.heap.size v l) :
    Calls Tryz.prog 19 #[.agg #[s, k], v] w (RetX (.tuple #[.bool (isRepV n l), .int .i64 (blE n l)]) w) := by
  obtain ⟨A, c, rfl, hn, hc⟩ := hl.len
  have H := Lib.hid h
  have Hl := Lib.hid hl
  clear h hl
  go_enter Tryz.func19, Tryz.ntmps19
  go_wp2_with fail
  refine Calls.mono (impl_checkBlame s k _ n l _ (H.out.up (by repeat (first | exact Ext.refl _ | assumption | refine Ext.alloc ?_ _ | refine Ext.drew ?_ | refine Ext.drewN ?_ _ | refine Ext.setCell ?_ (by first | (simp; done) | (simp; omega) | omega) _ | refine Ext.trans ?_ (by assumption)))) (Hl.out.up (by repeat (first | exact Ext.refl _ | assumption | refine Ext.alloc ?_ _ | refine Ext.drew ?_ | refine Ext.drewN ?_ _ | refine Ext.setCell ?_ (by first | (simp; done) | (simp; omega) | omega) _ | refine Ext.trans ?_ (by assumption))))) ?_
  rintro e w1 ⟨rfl, hx1⟩
  have hb := (Boxed.new w [s, k] 27).ext hx1; have hb0 := hb.at0; have hb1 := hb.at1; have hbg := hb.1; have Hhb := Lib.hid hb; clear hb
  have hx : Ext w w1 := (by repeat (first | exact Ext.refl _ | assumption | refine Ext.alloc ?_ _ | refine Ext.drew ?_ | refine Ext.drewN ?_ _ | refine Ext.setCell ?_ (by first | (simp; done) | (simp; omega) | omega) _ | refine Ext.trans ?_ (by assumption)))
  clear hx1
  by_cases hc : blE n l = 0
  · have Hc := Lib.hid hc
    have Hz := Lib.hid (blE_zero hc)
    have hd : (blE n l != 0) = false := by rw [hc]; rfl
    clear hc
    go_wp2_with fail
    refine Calls.mono (impl_repairs s k _ n l _ (H.out.up (by repeat (first | exact Ext.refl _ | assumption | refine Ext.alloc ?_ _ | refine Ext.drew ?_ | refine Ext.drewN ?_ _ | refine Ext.setCell ?_ (by first | (simp; done) | (simp; omega) | omega) _ | refine Ext.trans ?_ (by assumption)))) (Hl.out.up (by repeat (first | exact Ext.refl _ | assumption | refine Ext.alloc ?_ _ | refine Ext.drew ?_ | refine Ext.drewN ?_ _ | refine Ext.setCell ?_ (by first | (simp; done) | (simp; omega) | omega) _ | refine Ext.trans ?_ (by assumption)))) Hz.out.1) ?_
    rintro e w2 ⟨rfl, hx2⟩
    go_wp2_with fail
    go_ret2
    exact ⟨by rw [isRepV_ok Hc.out, Hc.out]; rfl, (by repeat (first | exact Ext.refl _ | assumption | refine Ext.alloc ?_ _ | refine Ext.drew ?_ | refine Ext.drewN ?_ _ | refine Ext.setCell ?_ (by first | (simp; done) | (simp; omega) | omega) _ | refine Ext.trans ?_ (by assumption)))⟩
  · have Hc := Lib.hid hc
    have hd : (blE n l != 0) = true := by simp [hc]
    clear hc
    go_wp2_with fail
    go_ret2
    exact ⟨by rw [isRepV_no Hc.out]; rfl, (by repeat (first | exact Ext.refl _ | assumption | refine Ext.alloc ?_ _ | refine Ext.drew ?_ | refine Ext.drewN ?_ _ | refine Ext.setCell ?_ (by first | (simp; done) | (simp; omega) | omega) _ | refine Ext.trans ?_ (by assumption)))⟩
end Go.Proofs.YtfajmlkiidnhlaaGreat

/- Plain: what the first solution, a certain order and statements given up have to do with one another. -/
namespace Go.Proofs.YtfajmlkiidnhlaaGreat
set_option linter.unusedVariables false
set_option linter.unusedSimpArgs false

theorem codeE_ch (n : Net) : codeE n true = chE n := by
  by_cases h : NetOk n
  · by_cases h2 : choN 4096 n.sets ≤ 4096
    · rw [codeE_ok h h2, (ch_ok h h2).1]
    · rw [codeE_big h h2, (ch_big h h2).1]
  · rw [codeE_net h, (ch_bad h).1]
/-- a first solution solves -/
theorem first_sol {n : Net} (h : codeE n true = 0) (hs : Sol n) : firE n = 0 ∧ dayE n (firL n) = 0 ∧ solvB n (firL n) = true ∧ (firL n).length = n.sets.length ∧ Solves n (firL n) ∧ 0 < chV n := by
  obtain ⟨h1, _, h3⟩ := codeE_zero h
  obtain ⟨m, e, hl, hm⟩ := best_solves h1.2.2.2 hs
  rw [firL_ok h e, firE_ok h hs, (ch_ok h1 h3).2]
  refine ⟨rfl, day_ok h1 hl hm.1, solvB_ok h1 hl hm, hl, hm, ?_⟩
  have e2 : choN 4096 n.sets = (prodN n.sets : Int) := choN_small (few_of h3)
  rw [e2]
  obtain ⟨k, hk, _⟩ := (sol_num n).1 hs
  omega
/-- a certain order holds in every solution -/
theorem ord_days {n : Net} {a b : Int} (h : ordE n a b = 0) (ho : ordV n a b = true) {ds : List Int} (hl : ds.length = n.sets.length) (hs : Solves n ds) :
    0 ≤ a ∧ a < ds.length ∧ 0 ≤ b ∧ b < ds.length ∧ inAt ds a.toNat < inAt ds b.toNat := by
  obtain ⟨h1, h2, _⟩ := codeE_zero h
  obtain ⟨⟨a1, a2⟩, ⟨b1, b2⟩⟩ := vars2.1 (B_iff.1 h2)
  refine ⟨a1, by omega, b1, by omega, ?_⟩
  by_cases e : a = b
  · rw [ordV_same h e, B_true (sol_of_days hl hs)] at ho
    cases ho
  · rw [ordV_two h e] at ho
    have hno : ¬ Sol (ordN n a b) := fun hh => by rw [B_true hh] at ho; cases ho
    apply Classical.byContradiction
    intro hc
    refine hno (sol_of_days (n := ordN n a b) (ds := ds) hl ⟨hs.1, fun j hj => ?_⟩)
    have hj' : j < n.links.length + 1 := by
      have e2 : (ordN n a b).links.length = n.links.length + 1 := by unfold ordN; simp
      omega
    have e3 : lkAt (ordN n a b).links j = if j = n.links.length then ⟨b, a, 0, 730499⟩ else lkAt n.links j := lkAt_push n.links _ hj'
    rw [e3]
    by_cases e4 : j = n.links.length
    · rw [if_pos e4]
      obtain ⟨d1, d2⟩ := (h1.2.2.1 a.toNat (by omega)).d.day (hs.1 a.toNat (by omega))
      obtain ⟨d3, d4⟩ := (h1.2.2.1 b.toNat (by omega)).d.day (hs.1 b.toNat (by omega))
      unfold Holds
      show 0 ≤ inAt ds a.toNat - inAt ds b.toNat ∧ inAt ds a.toNat - inAt ds b.toNat ≤ 730499
      omega
    · rw [if_neg e4]
      exact hs.2 j (by omega)
/-- the law on certain orders -/
theorem ord_first {n : Net} {a b : Int} (h : ordE n a b = 0) (ho : ordV n a b = true) :
    firE n = 4 ∨ (firE n = 0 ∧ 0 ≤ a ∧ a < (firL n).length ∧ 0 ≤ b ∧ b < (firL n).length ∧ inAt (firL n) a.toNat < inAt (firL n) b.toNat) := by
  obtain ⟨h1, _, h3⟩ := codeE_zero h
  have hc := codeE_ok h1 h3
  by_cases hs : Sol n
  · obtain ⟨e1, _, _, e4, e5, _⟩ := first_sol hc hs
    exact .inr ⟨e1, ord_days h ho e4 e5⟩
  · exact .inl (firE_none hc hs)
/-- a repair, by the network in which its statements are given up -/
theorem rep_give {n : Net} {l : List Int} (h : blE n l = 0) : stmE n l = 0 ∧ codeE (gvV n l) true = 0 ∧ hasV (gvV n l) = isRepV n l := by
  have hs : stmE n l = 0 := by
    apply Classical.byContradiction
    intro hh
    rw [blE_no hh] at h
    exact hh h
  obtain ⟨h1, h2, h3⟩ := blE_zero h
  have hg := giveN_ok (is := fun i => HasI l i) h1
  have hf := blame_few (is := fun i => HasI l i) h3
  have hc : codeE (giveN (fun i => HasI l i) n) true = 0 := by
    refine codeE_ok hg ?_
    rw [choN_small (by omega)]
    omega
  rw [gvV_ok hs]
  exact ⟨hs, hc, by rw [hasV_ok hc, isRepV_ok h]; rfl⟩
end Go.Proofs.YtfajmlkiidnhlaaGreat

/- Contracts: whether statements repair or contradict: the reference's. -/
namespace Go.Proofs.YtfajmlkiidnhlaaGreat
set_option linter.unusedVariables false
set_option linter.unusedSimpArgs false
open Go.RowKit
attribute [local go_sem] cell_onto

theorem gvS_congr {is js : Nat → Prop} (l : List (List Sp)) : ∀ k, (∀ i, i < k → (is i ↔ js i)) → gvS is l k = gvS js l k
  | 0, _ => rfl
  | k + 1, h => by
    have ih := gvS_congr l k (fun i hi => h i (by omega))
    show gvS is l k ++ [bif B (is k) then _ else _] = gvS js l k ++ [bif B (js k) then _ else _]
    rw [ih, B_congr (h k (by omega))]
theorem gvL_congr {is js : Nat → Prop} (N : Nat) (l : List Lk) : ∀ k, (∀ i, i < k → (is (N + i) ↔ js (N + i))) → gvL is N l k = gvL js N l k
  | 0, _ => rfl
  | k + 1, h => by
    have ih := gvL_congr N l k (fun i hi => h i (by omega))
    show (bif B (is (N + k)) then _ else _) = (bif B (js (N + k)) then _ else _)
    rw [ih, B_congr (h k (by omega))]
theorem giveN_congr {is js : Nat → Prop} {n : Net} (h : ∀ i, i < n.sets.length + n.links.length → (is i ↔ js i)) : giveN is n = giveN js n := by
  unfold giveN
  rw [gvS_congr n.sets n.sets.length (fun i hi => h i (by omega)), gvL_congr n.sets.length n.links n.links.length (fun i hi => h _ (by omega))]

/-- the statements below k that are not in l -/
noncomputable def othTo (l : List Int) : Nat → List Int
  | 0 => []
  | k + 1 => bif B (HasI l k) then othTo l k else othTo l k ++ [(k : Int)]
theorem othTo_yes {l : List Int} {k : Nat} (h : HasI l k) : othTo l (k + 1) = othTo l k := by show (bif B (HasI l k) then _ else _) = _; rw [B_true h]; rfl
theorem othTo_no {l : List Int} {k : Nat} (h : ¬ HasI l k) : othTo l (k + 1) = othTo l k ++ [(k : Int)] := by show (bif B (HasI l k) then _ else _) = _; rw [B_false h]; rfl
theorem othTo_len (l : List Int) : ∀ k, (othTo l k).length ≤ k
  | 0 => by simp [othTo]
  | k + 1 => by
    have ih := othTo_len l k
    by_cases h : HasI l k
    · rw [othTo_yes h]; omega
    · rw [othTo_no h]; simp; omega
theorem hasI_mem {l : List Int} {x : Int} : HasI l x ↔ x ∈ l := by
  constructor
  · rintro ⟨i, hi, e⟩
    unfold inAt at e
    rw [List.getD_eq_getElem?_getD, List.getElem?_eq_getElem hi] at e
    rw [← e]
    exact List.getElem_mem hi
  · intro h
    obtain ⟨i, hi, e⟩ := List.getElem_of_mem h
    refine ⟨i, hi, ?_⟩
    unfold inAt
    rw [List.getD_eq_getElem?_getD, List.getElem?_eq_getElem hi]
    exact e
theorem mem_oth {l : List Int} {x : Int} : ∀ k, x ∈ othTo l k ↔ (0 ≤ x ∧ x < k) ∧ ¬ HasI l x
  | 0 => by simp [othTo]; omega
  | k + 1 => by
    by_cases h : HasI l k
    · rw [othTo_yes h, mem_oth k]
      constructor
      · rintro ⟨⟨h1, h2⟩, h3⟩; exact ⟨⟨h1, by omega⟩, h3⟩
      · rintro ⟨⟨h1, h2⟩, h3⟩
        refine ⟨⟨h1, ?_⟩, h3⟩
        rcases Int.lt_or_eq_of_le (show x ≤ (k : Int) by omega) with e | e
        · exact e
        · rw [e] at h3; exact absurd h h3
    · rw [othTo_no h, List.mem_append, mem_oth k]
      constructor
      · rintro (⟨⟨h1, h2⟩, h3⟩ | h1)
        · exact ⟨⟨h1, by omega⟩, h3⟩
        · have e : x = (k : Int) := by simpa using h1
          subst e
          exact ⟨⟨by omega, by omega⟩, h⟩
      · rintro ⟨⟨h1, h2⟩, h3⟩
        rcases Int.lt_or_eq_of_le (show x ≤ (k : Int) by omega) with e | e
        · exact .inl ⟨⟨h1, e⟩, h3⟩
        · exact .inr (by simp [e])
noncomputable def othL (n : Net) (l : List Int) : List Int := othTo l (n.sets.length + n.links.length)
theorem oth_give (n : Net) (l : List Int) : giveN (fun i => HasI (othL n l) i) n = giveN (fun i => ¬ HasI l i) n :=
  giveN_congr (fun i hi => by
    show HasI (othTo l _) i ↔ _
    rw [hasI_mem, mem_oth]
    exact ⟨fun h => h.2, fun h => ⟨⟨by omega, by omega⟩, h⟩⟩)

theorem ints_of_owned {w : World} {b T : Nat} {v : Value} {l : List Int} (h : w.ownsRow b T 1 v l.length (cellsOf (l.length * 1) (intCell l))) : Ints w 0 w.heap.size v l := by
  obtain ⟨g, _, ho⟩ := Own.of_owned h
  have := ho.row (lo := 0) (hi := w.heap.size) (fun h0 => ⟨Nat.zero_le _, ho.lt h0⟩)
  exact this

set_option maxHeartbeats 1000000 in
theorem spec_l21Repairs (s k v : Value) (n : Net) (l : List Int) (w : World) (h : NetIn w s k n) (hl : Ints w 0 w.heap.size v l) (hok : NetOk n) (hb : blN n ≤ 256) :
    Calls Tryz.prog 108 #[.agg #[s, k], v] w (RetX (.bool (repB n l)) w) := by
  obtain ⟨A, c, rfl, hn, hc⟩ := hl.len
  have H := Lib.hid h
  have Hl := Lib.hid hl
  have Hok := Lib.hid hok
  have Hfew := Lib.hid (blame_few (is := fun i => HasI l i) hb)
  clear h hl hok
  go_enter Tryz.func108, Tryz.ntmps108
  go_wp2_with fail
  refine Calls.mono (spec_l21Without s k _ n l _ (H.out.up (by repeat (first | exact Ext.refl _ | assumption | refine Ext.alloc ?_ _ | refine Ext.drew ?_ | refine Ext.drewN ?_ _ | refine Ext.setCell ?_ (by first | (simp; done) | (simp; omega) | omega) _ | refine Ext.trans ?_ (by assumption)))) (Hl.out.up (by repeat (first | exact Ext.refl _ | assumption | refine Ext.alloc ?_ _ | refine Ext.drew ?_ | refine Ext.drewN ?_ _ | refine Ext.setCell ?_ (by first | (simp; done) | (simp; omega) | omega) _ | refine Ext.trans ?_ (by assumption)))) Hok.out) ?_
  rintro e w2 ⟨gs, gk, rfl, hx2, ho⟩
  have Ho := Lib.hid ho.net.netIn
  have Hf := Lib.hid (NetFit.of (giveN_ok (is := fun i => HasI l i) Hok.out))
  have hxw2 : Ext w w2 := (by repeat (first | exact Ext.refl _ | assumption | refine Ext.alloc ?_ _ | refine Ext.drew ?_ | refine Ext.drewN ?_ _ | refine Ext.setCell ?_ (by first | (simp; done) | (simp; omega) | omega) _ | refine Ext.trans ?_ (by assumption)))
  clear ho hx2
  go_wp2_with fail
  refine Calls.mono (spec_l20Has gs gk _ _ Ho.out Hf.out (by have := Hfew.out; omega)) ?_
  rintro e w3 ⟨rfl, hx3⟩
  go_wp2_with fail
  go_ret
  exact ⟨rfl, (by repeat (first | exact Ext.refl _ | assumption | refine Ext.alloc ?_ _ | refine Ext.drew ?_ | refine Ext.drewN ?_ _ | refine Ext.setCell ?_ (by first | (simp; done) | (simp; omega) | omega) _ | refine Ext.trans ?_ (by assumption)))⟩
set_option maxHeartbeats 2000000 in
theorem spec_l21Others (s k v : Value) (n : Net) (l : List Int) (w : World) (h : NetIn w s k n) (hl : Ints w 0 w.heap.size v l) (hok : NetOk n) :
    Calls Tryz.prog 49 #[.agg #[s, k], v] w (NewOwn 2 1 (othL n l).length (intCell (othL n l)) w) := by
  obtain ⟨A, c, rfl, hn, hc⟩ := hl.len
  have H := Lib.hid h
  have Hl := Lib.hid hl
  have h8 := hok.1
  have h20 := hok.2.1
  obtain ⟨N, hN⟩ : ∃ N, N = n.sets.length + n.links.length := ⟨_, rfl⟩
  have HN := Lib.hid hN
  have hN28 : N ≤ 28 := by omega
  clear h hl hok hN
  go_enter Tryz.func49, Tryz.ntmps49
  have nb := Boxed.new w [s, k] 27; have nb0 := nb.at0; have nb1 := nb.at1; have nbg := nb.1; have Hnb := Lib.hid nb; clear nb
  go_wp2_with fail
  go_loopg [5, 6] N (fun q u5 i wr => ∃ j : Nat, j + q = N ∧ i = .int .i64 j ∧ Ext w wr ∧ Boxed wr w.heap.size [s, k] ∧
    wr.ownsRow (w.heap.size + 1) 2 1 u5 (othTo l j).length (cellsOf ((othTo l j).length * 1) (intCell (othTo l j))))
  case atStart =>
    refine ⟨0, by omega, rfl, (by repeat (first | exact Ext.refl _ | assumption | refine Ext.alloc ?_ _ | refine Ext.drew ?_ | refine Ext.drewN ?_ _ | refine Ext.setCell ?_ (by first | (simp; done) | (simp; omega) | omega) _ | refine Ext.trans ?_ (by assumption))), Hnb.out.ext (by repeat (first | exact Ext.refl _ | assumption | refine Ext.alloc ?_ _ | refine Ext.drew ?_ | refine Ext.drewN ?_ _ | refine Ext.setCell ?_ (by first | (simp; done) | (simp; omega) | omega) _ | refine Ext.trans ?_ (by assumption))), ?_⟩
    have := World.ownsRow_made (base := w.heap.size + 1) (e := 2) (size := 1) (w.alloc (.cells #[s, k] 27)) #[] 0 (by simp) (Nat.zero_le _) rfl
    simpa [cellsOf, othTo] using this
  clear nb0 nb1 nbg Hnb
  case round =>
    obtain ⟨j, hj, rfl, hx, hnb, hown⟩ := hrel
    have nb := hnb; have nb0 := nb.at0; have nb1 := nb.at1; have nbg := nb.1; have Hnb := Lib.hid nb; clear nb
    have Hown := Lib.hid hown
    have hol := othTo_len l j
    clear hown hnb
    go_wp2_with fail
    refine Calls.mono (spec_l21Count s k n wr (H.out.up hx) ⟨by omega, by omega⟩) ?_
    rintro e w2 ⟨rfl, hx2⟩
    have e1 : (n.sets.length : Int) + n.links.length = (N : Int) := by rw [HN.out]; omega
    rw [e1]
    have hxw2 : Ext w w2 := hx.trans hx2
    have mb := Hnb.out.ext hx2; have mb0 := mb.at0; have mb1 := mb.at1; have mbg := mb.1; have Hmb := Lib.hid mb; clear mb
    have Hown2 := Lib.hid (row_ext Hown.out hx2)
    clear nb0 nb1 nbg Hnb hx2 Hown
    by_cases hlt : j < N
    · have T1 : decide ((j : Int) < (N : Int)) = true := decide_eq_true (by omega)
      have T2 : decide (j < N) = true := decide_eq_true hlt
      go_wp2_with fail
      refine Calls.mono (spec_l01Has _ l j w2 (Hl.out.up hxw2)) ?_
      rintro e w3 ⟨rfl, hx3⟩
      have hxw3 : Ext w w3 := hxw2.trans hx3
      have cb := Hmb.out.ext hx3; have cb0 := cb.at0; have cb1 := cb.at1; have cbg := cb.1; have Hcb := Lib.hid cb; clear cb
      have Hown3 := Lib.hid (row_ext Hown2.out hx3)
      clear mb0 mb1 mbg Hmb hx3 Hown2
      by_cases hh : HasI l j
      · have Hh := Lib.hid hh
        rw [B_true hh]
        clear hh
        go_wp2_with fail
        go_roundg (N - (j + 1))
        case measure => omega
        case rel => exact ⟨j + 1, by omega, by go_num, (by repeat (first | exact Ext.refl _ | assumption | refine Ext.alloc ?_ _ | refine Ext.drew ?_ | refine Ext.drewN ?_ _ | refine Ext.setCell ?_ (by first | (simp; done) | (simp; omega) | omega) _ | refine Ext.trans ?_ (by assumption))), Hcb.out, by rw [othTo_yes Hh.out]; exact Hown3.out⟩
      · have Hh := Lib.hid hh
        rw [B_false hh]
        clear hh
        go_wp2_with (at_builtin; refine wpList_append_row _ rfl _ _ 31 rfl (w.heap.size + 1) 2 1 8 Tryz.underlying31 (by kernel_rfl) (by omega) _ (othTo l j).length 1 _ rfl (.inl (row_ext Hown3.out (by repeat (first | exact Ext.refl _ | assumption | refine Ext.alloc ?_ _ | refine Ext.drew ?_ | refine Ext.drewN ?_ _ | refine Ext.setCell ?_ (by first | (simp; done) | (simp; omega) | omega) _ | refine Ext.trans ?_ (by assumption))))) (.inr (by omega)) 0 _ _ (intCell [(j : Int)]) rfl ((Boxed.new w3 [.int .i64 (j : Int)] 2).row rfl (int_cells _)) (fun _ _ => rfl) (by unfold maxLen; omega) (by omega) (by simp; omega) ?_; intro v4 w4 hown4 hput4)
        go_roundg (N - (j + 1))
        case measure => omega
        case rel =>
          have hxb : Ext w (w3.alloc (.cells #[.int .i64 (j : Int)] 2)) := (by repeat (first | exact Ext.refl _ | assumption | refine Ext.alloc ?_ _ | refine Ext.drew ?_ | refine Ext.drewN ?_ _ | refine Ext.setCell ?_ (by first | (simp; done) | (simp; omega) | omega) _ | refine Ext.trans ?_ (by assumption)))
          exact ⟨j + 1, by omega, by go_num, hput4.ext hxb (by omega), (Hcb.out.ext (show Ext w3 (w3.alloc (.cells #[.int .i64 (j : Int)] 2)) from (by repeat (first | exact Ext.refl _ | assumption | refine Ext.alloc ?_ _ | refine Ext.drew ?_ | refine Ext.drewN ?_ _ | refine Ext.setCell ?_ (by first | (simp; done) | (simp; omega) | omega) _ | refine Ext.trans ?_ (by assumption))))).off hput4.1 (fun hh => by have := hh.1; omega), by rw [othTo_no Hh.out, ← intCells_push, List.length_append]; exact hown4⟩
    · obtain rfl : j = N := by omega
      have T1 : decide ((j : Int) < (j : Int)) = false := decide_eq_false (by omega)
      go_wp2_with fail
      go_ret
      have h2 := Hown2.out
      rw [HN.out] at h2
      exact ⟨_, rfl, (by repeat (first | exact Ext.refl _ | assumption | refine Ext.alloc ?_ _ | refine Ext.drew ?_ | refine Ext.drewN ?_ _ | refine Ext.setCell ?_ (by first | (simp; done) | (simp; omega) | omega) _ | refine Ext.trans ?_ (by assumption))), ownsRow_mono h2 (by omega)⟩
set_option maxHeartbeats 2000000 in
theorem spec_l21Contradict (s k v : Value) (n : Net) (l : List Int) (w : World) (h : NetIn w s k n) (hl : Ints w 0 w.heap.size v l) (hok : NetOk n) (hb : blN n ≤ 256) :
    Calls Tryz.prog 50 #[.agg #[s, k], v] w (RetX (.bool (conB n l)) w) := by
  obtain ⟨A, c, rfl, hn, hc⟩ := hl.len
  have H := Lib.hid h
  have Hl := Lib.hid hl
  have Hok := Lib.hid hok
  have Hfew := Lib.hid (show prodN (giveN (fun i => HasI (othL n l) i) n).sets ≤ 4096 from by have := blame_few (is := fun i => HasI (othL n l) i) hb; omega)
  have Hf := Lib.hid (NetFit.of (giveN_ok (is := fun i => HasI (othL n l) i) hok))
  clear h hl hok
  go_enter Tryz.func50, Tryz.ntmps50
  go_wp2_with fail
  have nb := Boxed.new w [s, k] 27; have nb0 := nb.at0; have nb1 := nb.at1; have nbg := nb.1; have Hnb := Lib.hid nb; clear nb
  have Hn0 : Hid (Boxed (w.alloc (.cells #[s, k] 27)) w.heap.size [s, k]) := Lib.hid Hnb.out
  go_region_law (first
    | (go_simp; go_at_call 49; refine Calls.mono (spec_l21Others s k _ n l _ (H.out.up (by repeat (first | exact Ext.refl _ | assumption | refine Ext.alloc ?_ _ | refine Ext.drew ?_ | refine Ext.drewN ?_ _ | refine Ext.setCell ?_ (by first | (simp; done) | (simp; omega) | omega) _ | refine Ext.trans ?_ (by assumption)))) (Hl.out.up (by repeat (first | exact Ext.refl _ | assumption | refine Ext.alloc ?_ _ | refine Ext.drew ?_ | refine Ext.drewN ?_ _ | refine Ext.setCell ?_ (by first | (simp; done) | (simp; omega) | omega) _ | refine Ext.trans ?_ (by assumption)))) Hok.out) ?_; rintro e wc ⟨uv, rfl, hxc, huc⟩; have Huc := Lib.hid (ints_of_owned huc); have hxwc : Ext (w.alloc (.cells #[s, k] 27)) wc := (by repeat (first | exact Ext.refl _ | assumption | refine Ext.alloc ?_ _ | refine Ext.drew ?_ | refine Ext.drewN ?_ _ | refine Ext.setCell ?_ (by first | (simp; done) | (simp; omega) | omega) _ | refine Ext.trans ?_ (by assumption))); have cb := Hn0.out.ext hxwc; have cb0 := cb.at0; have cb1 := cb.at1; have cbg := cb.1; have Hcb := Lib.hid cb; clear cb; clear huc)
    | (go_simp; go_at_call 105; refine Calls.mono (spec_l21Without s k uv n (othL n l) _ (H.out.up (by repeat (first | exact Ext.refl _ | assumption | refine Ext.alloc ?_ _ | refine Ext.drew ?_ | refine Ext.drewN ?_ _ | refine Ext.setCell ?_ (by first | (simp; done) | (simp; omega) | omega) _ | refine Ext.trans ?_ (by assumption)))) (Huc.out.up (by repeat (first | exact Ext.refl _ | assumption | refine Ext.alloc ?_ _ | refine Ext.drew ?_ | refine Ext.drewN ?_ _ | refine Ext.setCell ?_ (by first | (simp; done) | (simp; omega) | omega) _ | refine Ext.trans ?_ (by assumption)))) Hok.out) ?_; rintro e wd ⟨gs, gk, rfl, hxd, ho⟩; have Ho := Lib.hid ho.net.netIn; clear ho)
    | (go_simp; go_at_call 42; refine Calls.mono (spec_l20Has gs gk _ _ (Ho.out.up (by repeat (first | exact Ext.refl _ | assumption | refine Ext.alloc ?_ _ | refine Ext.drew ?_ | refine Ext.drewN ?_ _ | refine Ext.setCell ?_ (by first | (simp; done) | (simp; omega) | omega) _ | refine Ext.trans ?_ (by assumption)))) Hf.out Hfew.out) ?_; rintro e we ⟨rfl, hxe⟩))
  all_goals
    go_wp2_with fail
    go_ret
    exact ⟨by unfold conB; rw [oth_give]; rfl, (by repeat (first | exact Ext.refl _ | assumption | refine Ext.alloc ?_ _ | refine Ext.drew ?_ | refine Ext.drewN ?_ _ | refine Ext.setCell ?_ (by first | (simp; done) | (simp; omega) | omega) _ | refine Ext.trans ?_ (by assumption)))⟩
end Go.Proofs.YtfajmlkiidnhlaaGreat
