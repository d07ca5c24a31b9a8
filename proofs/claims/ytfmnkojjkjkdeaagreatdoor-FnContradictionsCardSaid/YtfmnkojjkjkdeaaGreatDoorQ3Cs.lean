/- Contracts: the program's choices, a closure that calls itself. -/
import Derived.Test.YtfmnkojjkjkdeaaGreatDoorQ3Lc
import Derived.Test.YtfmnkojjkjkdeaaGreatDoorQ3T
import Derived.Test.YtfmnkojjkjkdeaaGreatDoorQ3Fs
import Derived.Deep.RegionLaw
namespace Go.Proofs.YtfmnkojjkjkdeaaGreatDoor
set_option linter.unusedVariables false
set_option linter.unusedSimpArgs false
open Go.RowKit
attribute [local go_sem] cell_onto

/-- what is carried from call to call: 'St l K w': l has been handed over; the blocks K are the callback's own -/
structure CbOk (b0 : Nat) (St : List (List Sp) → (Nat → Prop) → World → Prop) : Prop where
  ext : ∀ {l K w w'}, St l K w → Ext w w' → St l K w'
  lt : ∀ {l K w k}, St l K w → K k → b0 ≤ k ∧ k < w.heap.size
/-- behind a callback -/
def CbPost (St : List (List Sp) → (Nat → Prop) → World → Prop) (l : List (List Sp)) (K : Nat → Prop) (w : World) (e : Ending) (w' : World) : Prop :=
  ∃ K' : Nat → Prop, e = .returned (.tuple #[]) ∧ St l K' w' ∧ Off K w w' ∧ ∀ k, K' k → K k ∨ w.heap.size ≤ k
theorem Off.more {K K1 : Nat → Prop} {a b c : World} (h : Off K a b) (h1 : Off K1 b c) (hk : ∀ k, K1 k → K k ∨ a.heap.size ≤ k) : Off K a c :=
  ⟨h1.os.trans h.os, h1.tape.trans h.tape, h1.output.trans h.output, Nat.le_trans h.size h1.size, fun i hi hs => (h1.block i (Nat.lt_of_lt_of_le hi h.size) (fun hh => by
    rcases hk i hh with e | e
    · exact hs e
    · omega)).trans (h.block i hi hs)⟩
theorem CbPost.same {St : List (List Sp) → (Nat → Prop) → World → Prop} {l : List (List Sp)} {K : Nat → Prop} {w w' : World} (hs : St l K w') (hx : Ext w w') : CbPost St l K w (.returned (.tuple #[])) w' :=
  ⟨K, rfl, hs, Off.of_ext hx, fun _ h => .inl h⟩

/-- what the closure reads: its three boxes and the network's sets, none in the callback's blocks -/
structure ExIn (St : List (List Sp) → (Nat → Prop) → World → Prop) (b0 gN gC gE : Nat) (s k fv ev : Value) (n : Net) (l : List (List Sp)) (K : Nat → Prop) (w : World) : Prop where
  st : St l K w
  nb : Boxed w gN [s, k]
  cb : Boxed w gC [fv]
  eb : Boxed w gE [ev]
  no : ¬ K gN ∧ ¬ K gC ∧ ¬ K gE
  sets : Sets w 0 b0 s n.sets
  hb : b0 ≤ w.heap.size
section
variable {St : List (List Sp) → (Nat → Prop) → World → Prop} {b0 gN gC gE : Nat} {s k fv ev : Value} {n : Net} {l l' : List (List Sp)} {K K' : Nat → Prop} {w w' : World}
theorem ExIn.ext (h : ExIn St b0 gN gC gE s k fv ev n l K w) (hc : CbOk b0 St) (hx : Ext w w') : ExIn St b0 gN gC gE s k fv ev n l K w' :=
  ⟨hc.ext h.st hx, h.nb.ext hx, h.cb.ext hx, h.eb.ext hx, h.no, h.sets.ext hx h.hb, Nat.le_trans h.hb hx.size⟩
theorem ExIn.back (h : ExIn St b0 gN gC gE s k fv ev n l K w) (hc : CbOk b0 St) (hs : St l' K' w') (ho : Off K w w') (hk : ∀ k, K' k → K k ∨ w.heap.size ≤ k) : ExIn St b0 gN gC gE s k fv ev n l' K' w' := by
  obtain ⟨n1, n2, n3⟩ := h.no
  refine ⟨hs, h.nb.off ho n1, h.cb.off ho n2, h.eb.off ho n3, ⟨fun hh => ?_, fun hh => ?_, fun hh => ?_⟩, h.sets.off ho (fun k _ h2 hh => by have := (hc.lt h.st hh).1; omega) h.hb, Nat.le_trans h.hb ho.size⟩
  · rcases hk _ hh with e | e
    · exact n1 e
    · have := h.nb.1; omega
  · rcases hk _ hh with e | e
    · exact n2 e
    · have := h.cb.1; omega
  · rcases hk _ hh with e | e
    · exact n3 e
    · have := h.eb.1; omega
end

/-- the first of a choice -/
def PreOk (l : List (List Sp)) (pre : List Sp) : Prop := pre.length ≤ l.length ∧ ∀ i, i < pre.length → spAt pre i ∈ setAt l i
theorem PreOk.isCh : ∀ {l : List (List Sp)} {pre : List Sp}, PreOk l pre → pre.length = l.length → IsCh l pre
  | [], [], _, _ => trivial
  | s :: r, x :: c, h, hl => ⟨h.2 0 (by simp), PreOk.isCh (l := r) (pre := c) ⟨by simpa using h.1, fun i hi => h.2 (i + 1) (by simpa using hi)⟩ (by simpa using hl)⟩
  | [], _ :: _, _, hl => by simp at hl
  | _ :: _, [], _, hl => by simp at hl
theorem PreOk.push {l : List (List Sp)} {pre : List Sp} (h : PreOk l pre) (hl : pre.length < l.length) {x : Sp} (hx : x ∈ setAt l pre.length) : PreOk l (pre ++ [x]) := by
  refine ⟨by simp; omega, fun i hi => ?_⟩
  have hi' : i < pre.length + 1 := by simpa using hi
  rw [spAt_push pre x hi']
  by_cases e : i = pre.length
  · rw [if_pos e, e]; exact hx
  · rw [if_neg e]; exact h.2 i (by omega)
theorem allCh_drop {l : List (List Sp)} {pre : List Sp} (h : pre.length < l.length) : allCh (l.drop pre.length) pre = (setAt l pre.length).flatMap (fun x => allCh (l.drop (pre.length + 1)) (pre ++ [x])) := by
  rw [List.drop_eq_getElem_cons h]
  unfold setAt
  rw [List.getD_eq_getElem?_getD, List.getElem?_eq_getElem h]
  rfl
/-- handed over when i spans of the next set are through -/
def doneTo (n : Net) (l : List (List Sp)) (pre : List Sp) (i : Nat) : List (List Sp) := l ++ ((setAt n.sets pre.length).take i).flatMap (fun x => allCh (n.sets.drop (pre.length + 1)) (pre ++ [x]))
theorem doneTo_zero (n : Net) (l : List (List Sp)) (pre : List Sp) : doneTo n l pre 0 = l := by simp [doneTo]
theorem doneTo_succ (n : Net) (l : List (List Sp)) (pre : List Sp) {i : Nat} (hi : i < (setAt n.sets pre.length).length) :
    doneTo n l pre (i + 1) = doneTo n l pre i ++ allCh (n.sets.drop (pre ++ [spAt (setAt n.sets pre.length) i]).length) (pre ++ [spAt (setAt n.sets pre.length) i]) := by
  unfold doneTo
  rw [take_pushS _ hi, List.flatMap_append, List.append_assoc]
  simp
theorem doneTo_all (n : Net) (l : List (List Sp)) (pre : List Sp) (h : pre.length < n.sets.length) : doneTo n l pre (setAt n.sets pre.length).length = l ++ allCh (n.sets.drop pre.length) pre := by
  unfold doneTo
  rw [List.take_length, ← allCh_drop h]

theorem doneTo_le (n : Net) (l : List (List Sp)) (pre : List Sp) {i m : Nat} (h : i ≤ m) : (doneTo n l pre i).length ≤ (doneTo n l pre m).length := by
  unfold doneTo
  have e : (setAt n.sets pre.length).take m = (setAt n.sets pre.length).take i ++ ((setAt n.sets pre.length).take m).drop i := by
    have h1 := List.take_append_drop i ((setAt n.sets pre.length).take m)
    rw [List.take_take, Nat.min_eq_left h] at h1
    exact h1.symm
  rw [e, List.flatMap_append, List.length_append, List.length_append, List.length_append]
  omega
theorem Boxed.new1 (w : World) (o : Obj) (cs : List Value) (T : TypeId) : Boxed (((w.alloc o).drew).alloc (.cells cs.toArray T)) (w.heap.size + 1) cs := by
  have := Boxed.new ((w.alloc o).drew) cs T
  simpa using this
/-- the callback's own promise -/
def CbCalls (St : List (List Sp) → (Nat → Prop) → World → Prop) (g : Nat) (caps : Array Value) (n : Net) : Prop :=
  ∀ (l : List (List Sp)) (K : Nat → Prop) (c : List Sp) (v : Value) (w : World), IsCh n.sets c → l.length < (allCh n.sets []).length → St l K w → Spans w 0 w.heap.size v c → Calls Tryz.prog g (#[v] ++ caps) w (CbPost St (l ++ [c]) K w)

set_option maxRecDepth 100000 in
set_option maxHeartbeats 4000000 in
theorem choices_end (St : List (List Sp) → (Nat → Prop) → World → Prop) (b0 gN gC gE g : Nat) (caps : Array Value) (s k ev : Value) (n : Net)
    (hg : ∀ (args : Array Value) (w : World), (callFunc g args).run Tryz.prog w = .ok (.enter g args) w) (hf : CbCalls St g caps n)
    (pre : List Sp) (l : List (List Sp)) (K : Nat → Prop) (v : Value) (w : World) (hlen : pre.length = n.sets.length) (hp : PreOk n.sets pre) (hM : l.length + 1 ≤ (allCh n.sets []).length)
    (hi : ExIn St b0 gN gC gE s k (.func (.func g) #[] caps) ev n l K w) (hv : Spans w 0 w.heap.size v pre) :
    Calls Tryz.prog 295 (#[v] ++ #[.pointer (some ⟨gN, 0, none⟩), .pointer (some ⟨gC, 0, none⟩), .pointer (some ⟨gE, 0, none⟩)]) w (CbPost St (l ++ [pre]) K w) := by
  obtain ⟨A, c, rfl, hn, hc⟩ := hv.len
  obtain ⟨As, cs, rfl, _, _⟩ := hi.sets.len
  have Hf := Lib.hid hf
  have HM := Lib.hid hM
  have Hv := Lib.hid hv
  have Hi := Lib.hid hi
  have Hp := Lib.hid hp
  have Hlen := Lib.hid hlen
  have ht : ((pre.length : Int) == (n.sets.length : Int)) = true := by rw [hlen]; simp
  have nb := Hi.out.nb; have nb0 := nb.at0; have nb1 := nb.at1; have nbg := nb.1; have Hnb := Lib.hid nb; clear nb
  have cb := Hi.out.cb; have cb0 := cb.at0; have cbg := cb.1; have Hcb := Lib.hid cb; clear cb
  clear hf hv hi hp hlen hM
  go_enter Tryz.func295, Tryz.ntmps295
  go_wp2_with fail
  refine Calls.mono (Hf.out l K pre _ w (Hp.out.isCh Hlen.out) HM.out Hi.out.st Hv.out) ?_
  rintro e w1 ⟨K', rfl, hst, hoff, hk⟩
  have Hst : Hid (CbPost St (l ++ [pre]) K w (.returned (.tuple #[])) w1) := Lib.hid ⟨K', rfl, hst, hoff, hk⟩
  clear hst hoff hk nb0 nb1 nbg cb0 cbg Hnb Hcb
  go_wp2_with fail
  refine bodyPost_ret (results_none rfl _ _ _) rfl ?_
  exact Hst.out

set_option maxRecDepth 100000 in
set_option maxHeartbeats 8000000 in
theorem choices_more (St : List (List Sp) → (Nat → Prop) → World → Prop) (b0 gN gC gE g : Nat) (caps : Array Value) (s k : Value) (n : Net) (hcb : CbOk b0 St)
    (hg2 : ∀ (args : Array Value) (w : World), (callFunc 295 args).run Tryz.prog w = .ok (.enter 295 args) w) (h8 : n.sets.length ≤ 8) (hfit : SetsFit n.sets)
    (pre : List Sp) (l : List (List Sp)) (K : Nat → Prop) (v : Value) (w : World) (b : Nat) (hlen : pre.length < n.sets.length) (hp : PreOk n.sets pre) (hM : l.length + (allCh (n.sets.drop pre.length) pre).length ≤ (allCh n.sets []).length)
    (ih : ∀ (pre' : List Sp) (l : List (List Sp)) (K : Nat → Prop) (v : Value) (w : World) (b : Nat), pre'.length = pre.length + 1 → PreOk n.sets pre' → l.length + (allCh (n.sets.drop pre'.length) pre').length ≤ (allCh n.sets []).length →
      ExIn St b0 gN gC gE s k (.func (.func g) #[] caps) (.func (.func 295) #[] #[.pointer (some ⟨gN, 0, none⟩), .pointer (some ⟨gC, 0, none⟩), .pointer (some ⟨gE, 0, none⟩)]) n l K w →
      Own w b 2 v pre'.length (spanCell pre') → (0 < pre'.length → ¬ K b) →
      Calls Tryz.prog 295 (#[v] ++ #[.pointer (some ⟨gN, 0, none⟩), .pointer (some ⟨gC, 0, none⟩), .pointer (some ⟨gE, 0, none⟩)]) w (CbPost St (l ++ allCh (n.sets.drop pre'.length) pre') K w))
    (hi : ExIn St b0 gN gC gE s k (.func (.func g) #[] caps) (.func (.func 295) #[] #[.pointer (some ⟨gN, 0, none⟩), .pointer (some ⟨gC, 0, none⟩), .pointer (some ⟨gE, 0, none⟩)]) n l K w)
    (hv : Own w b 2 v pre.length (spanCell pre)) (hb : 0 < pre.length → ¬ K b) :
    Calls Tryz.prog 295 (#[v] ++ #[.pointer (some ⟨gN, 0, none⟩), .pointer (some ⟨gC, 0, none⟩), .pointer (some ⟨gE, 0, none⟩)]) w (CbPost St (l ++ allCh (n.sets.drop pre.length) pre) K w) := by
  obtain ⟨A, c, rfl⟩ := hv.len
  obtain ⟨As, cs, rfl, _, _⟩ := hi.sets.len
  have Hv := Lib.hid hv
  have Hi := Lib.hid hi
  have Hp := Lib.hid hp
  have HM := Lib.hid hM
  have Hlen := Lib.hid hlen
  have Hih := Lib.hid ih
  have Hbk := Lib.hid hb
  have Hfit := Lib.hid hfit
  have Hcb := Lib.hid hcb
  have ht : ((pre.length : Int) == (n.sets.length : Int)) = false := by simp; omega
  obtain ⟨bs, os, u, rfl, _, hbs, c1, hus⟩ := hi.sets.at_ hlen
  obtain ⟨Au, cu, rfl, _, _⟩ := hus.len
  have Hus := Lib.hid hus
  have hb0 := hi.hb
  have hf300 := hfit pre.length hlen
  have nb := Hi.out.nb; have nb0 := nb.at0; have nb1 := nb.at1; have nbg := nb.1; have Hnb := Lib.hid nb; clear nb
  clear hv hi hp ih hb hfit hcb hus hM
  go_enter Tryz.func295, Tryz.ntmps295
  go_wp2_with fail
  have Hi0 : Hid (ExIn St b0 gN gC gE (.slice (some ⟨bs, os, none⟩) n.sets.length cs) k (.func (.func g) #[] caps) (.func (.func 295) #[] #[.pointer (some ⟨gN, 0, none⟩), .pointer (some ⟨gC, 0, none⟩), .pointer (some ⟨gE, 0, none⟩)]) n (doneTo n l pre 0) K w) := Lib.hid (by rw [doneTo_zero]; exact Hi.out)
  clear nb0 nb1 nbg Hnb c1
  go_loopg [23] (setAt n.sets pre.length).length (fun q i wr => ∃ (j : Nat) (K1 : Nat → Prop), j + q = (setAt n.sets pre.length).length ∧ i = .int .i64 j ∧ Hid (Off K w wr) ∧ Hid (∀ k, K1 k → K k ∨ w.heap.size ≤ k) ∧
    Hid (ExIn St b0 gN gC gE (.slice (some ⟨bs, os, none⟩) n.sets.length cs) k (.func (.func g) #[] caps) (.func (.func 295) #[] #[.pointer (some ⟨gN, 0, none⟩), .pointer (some ⟨gC, 0, none⟩), .pointer (some ⟨gE, 0, none⟩)]) n (doneTo n l pre j) K1 wr))
  case atStart => exact ⟨0, K, by omega, rfl, Lib.hid (Off.refl _ _), Lib.hid (fun _ h => .inl h), Hi0⟩
  case round =>
    obtain ⟨j, K1, hj, rfl, Hoff, Hk, Hi1⟩ := hrel
    by_cases hlt : j < (setAt n.sets pre.length).length
    · have hoz := Hoff.out.size
      obtain ⟨b2, o2, rfl, _, hb2, d1, d2⟩ := (show Spans wr 0 b0 _ (setAt n.sets pre.length) from Row.off (S := K) Hus.out Hoff.out (fun k _ h2 hh => by have := (Hcb.out.lt Hi.out.st hh).1; omega) hb0).at_ hlt
      have Hpv : Hid (Spans wr 0 wr.heap.size (.slice A pre.length c) pre) := Lib.hid ((Hv.out.off Hoff.out Hbk.out).row (fun h0 => ⟨Nat.zero_le _, (Hv.out.off Hoff.out Hbk.out).lt h0⟩))
      have Hpl : Hid (pre.length ≤ 1048576) := Lib.hid (by omega)
      have eb := Hi1.out.eb; have eb0 := eb.at0; have ebg := eb.1; have Heb := Lib.hid eb; clear eb
      go_wp2_with fail
      have Hx : Hid (spAt (setAt n.sets pre.length) j ∈ setAt n.sets pre.length) := Lib.hid (spAt_mem hlt)
      have Hsucc := Lib.hid (doneTo_succ n l pre hlt)
      generalize hxx : spAt (setAt n.sets pre.length) j = x at *
      have HMj : Hid ((doneTo n l pre j).length + (allCh (n.sets.drop (pre ++ [x]).length) (pre ++ [x])).length ≤ (allCh n.sets []).length) := Lib.hid (by
        have h1 := doneTo_le n l pre (i := j + 1) (m := (setAt n.sets pre.length).length) hlt
        have e1 : (doneTo n l pre (setAt n.sets pre.length).length).length = l.length + (allCh (n.sets.drop pre.length) pre).length := by rw [doneTo_all n l pre Hlen.out]; exact List.length_append
        have e2 : (doneTo n l pre (j + 1)).length = (doneTo n l pre j).length + (allCh (n.sets.drop (pre ++ [x]).length) (pre ++ [x])).length := by rw [Hsucc.out]; exact List.length_append
        have := HM.out
        omega)
      have hi1z : K1 gN → False := Hi1.out.no.1
      have Hlt1 : Hid (∀ k, K1 k → k < wr.heap.size) := Lib.hid (fun k hk => (Hcb.out.lt Hi1.out.st hk).2)
      clear hxx d1 d2 hi1z
      go_region_law (first
        | (refine step_append_row rfl (.tmp 29) (.tmp 31) 48 rfl (wr.heap.size + 1) 134 2 16 Tryz.underlying48 (by kernel_rfl) (by omega) _ pre.length 1 _ rfl (.inl (ownsRow_mono (row_ext hu (by repeat (first | exact Ext.refl _ | assumption | refine Ext.alloc ?_ _ | refine Ext.drew ?_ | refine Ext.drewN ?_ _ | refine Ext.setCell ?_ (by first | (simp; done) | (simp; omega) | omega) _ | refine Ext.trans ?_ (by assumption)))) (by first | (simp; done) | (simp; omega) | omega))) (.inl (ownsRow_mono (row_ext hu (by repeat (first | exact Ext.refl _ | assumption | refine Ext.alloc ?_ _ | refine Ext.drew ?_ | refine Ext.drewN ?_ _ | refine Ext.setCell ?_ (by first | (simp; done) | (simp; omega) | omega) _ | refine Ext.trans ?_ (by assumption)))) (by first | (simp; done) | (simp; omega) | omega))) 0 _ _ (spanCell [x]) rfl (by first | exact (Boxed.new w2 [.int .i64 x.fr, .int .i64 x.to] 134).row rfl (span_cells _ _) | exact ((Boxed.new1 wr _ [.int .i64 x.fr, .int .i64 x.to] 134).ext hx2).row rfl (span_cells _ _)) (fun i _ => spanCell_one _ i) (by have := Hpl.out; unfold maxLen; omega) (by have := Hpl.out; omega) (by have := hx2.size; simp at this ⊢; omega) ?_; intro v3 w3 hown3 hput3; obtain ⟨Av3, cv3, rfl⟩ := ownsRow_len hown3; have Hx3 : Hid (Ext wr w3) := Lib.hid (hput3.ext (show Ext wr _ from (by repeat (first | exact Ext.refl _ | assumption | refine Ext.alloc ?_ _ | refine Ext.drew ?_ | refine Ext.drewN ?_ _ | refine Ext.setCell ?_ (by first | (simp; done) | (simp; omega) | omega) _ | refine Ext.trans ?_ (by assumption)))) (by omega)); obtain ⟨gb, hgb, hob⟩ := Own.of_owned (f := spanCell (pre ++ [x])) (show w3.ownsRow (wr.heap.size + 1) 134 2 _ (pre ++ [x]).length (cellsOf ((pre ++ [x]).length * 2) (spanCell (pre ++ [x]))) from by rw [← spanCells_push, List.length_append]; exact hown3); have eb3 := (Heb.out.ext Hx3.out).at0; have Hgb := Lib.hid hgb; have Hob := Lib.hid hob; clear hown3 hput3 hgb hob)
        | (go_simp; go_at_call 197; refine Calls.mono (slices_Clone_spans _ pre _ (Hpv.out.up (by repeat (first | exact Ext.refl _ | assumption | refine Ext.alloc ?_ _ | refine Ext.drew ?_ | refine Ext.drewN ?_ _ | refine Ext.setCell ?_ (by first | (simp; done) | (simp; omega) | omega) _ | refine Ext.trans ?_ (by assumption)))) Hpl.out) ?_; rintro e w2 ⟨uv, rfl, hx2, hu⟩; obtain ⟨Av, cv, rfl⟩ := ownsRow_len hu; have eb2 := (Heb.out.ext (show Ext wr w2 from (by repeat (first | exact Ext.refl _ | assumption | refine Ext.alloc ?_ _ | refine Ext.drew ?_ | refine Ext.drewN ?_ _ | refine Ext.setCell ?_ (by first | (simp; done) | (simp; omega) | omega) _ | refine Ext.trans ?_ (by assumption))))).at0; have eb2a := (Heb.out.ext (show Ext wr (w2.alloc (.cells #[.int .i64 x.fr, .int .i64 x.to] 134)) from (by repeat (first | exact Ext.refl _ | assumption | refine Ext.alloc ?_ _ | refine Ext.drew ?_ | refine Ext.drewN ?_ _ | refine Ext.setCell ?_ (by first | (simp; done) | (simp; omega) | omega) _ | refine Ext.trans ?_ (by assumption))))).at0; have sb := (Boxed.new wr [.int .i64 x.fr, .int .i64 x.to] 134).ext (show Ext _ w2 from (by repeat (first | exact Ext.refl _ | assumption | refine Ext.alloc ?_ _ | refine Ext.drew ?_ | refine Ext.drewN ?_ _ | refine Ext.setCell ?_ (by first | (simp; done) | (simp; omega) | omega) _ | refine Ext.trans ?_ (by assumption)))); have sb0 := sb.at0; have sb1 := sb.at1; have sbg := sb.1; clear sb)
        | (go_simp; go_at_call 295; refine Calls.mono (Hih.out (pre ++ [x]) (doneTo n l pre j) K1 _ _ gb (by simp) (Hp.out.push Hlen.out Hx.out) HMj.out (Hi1.out.ext Hcb.out Hx3.out) Hob.out (fun h0 hh => by have := (Hgb.out h0).2; have := Hlt1.out gb hh; omega)) ?_; rintro e w4 ⟨K2, rfl, hst4, hoff4, hk4⟩))
      all_goals
        have Hoff4 : Hid (Off K w w4) := Lib.hid ((Hoff.out.trans (Off.of_ext Hx3.out)).more hoff4 Hk.out)
        have Hk4 : Hid (∀ k, K2 k → K k ∨ w.heap.size ≤ k) := Lib.hid (fun k hk => (hk4 k hk).elim (Hk.out k) (fun h => .inr (by have := Hx3.out.size; omega)))
        have Hi4 := Lib.hid ((Hi1.out.ext Hcb.out Hx3.out).back Hcb.out (show St (doneTo n l pre (j + 1)) K2 w4 from by rw [Hsucc.out]; exact hst4) hoff4 hk4)
        clear hst4 hoff4 hk4 hu hx2 eb0 ebg eb2 eb2a eb3 sb0 sb1 sbg
        go_wp2_with fail
        go_roundg ((setAt n.sets pre.length).length - (j + 1))
        case measure => omega
        case rel => exact ⟨j + 1, K2, by omega, by go_num, Hoff4, Hk4, Hi4⟩
    · obtain rfl : j = (setAt n.sets pre.length).length := by omega
      have Hst : Hid (CbPost St (l ++ allCh (n.sets.drop pre.length) pre) K w (.returned (.tuple #[])) wr) := Lib.hid ⟨K1, rfl, by rw [← doneTo_all n l pre Hlen.out]; exact Hi1.out.st, Hoff.out, Hk.out⟩
      go_wp2_with fail
      refine bodyPost_end (results_none rfl _ _ _) rfl ?_
      exact Hst.out

theorem choices_all (St : List (List Sp) → (Nat → Prop) → World → Prop) (b0 gN gC gE g : Nat) (caps : Array Value) (s k : Value) (n : Net) (hcb : CbOk b0 St)
    (hg : ∀ (args : Array Value) (w : World), (callFunc g args).run Tryz.prog w = .ok (.enter g args) w) (hf : CbCalls St g caps n) (h8 : n.sets.length ≤ 8) (hfit : SetsFit n.sets) :
    ∀ (m : Nat) (pre : List Sp) (l : List (List Sp)) (K : Nat → Prop) (v : Value) (w : World) (b : Nat), pre.length + m = n.sets.length → PreOk n.sets pre → l.length + (allCh (n.sets.drop pre.length) pre).length ≤ (allCh n.sets []).length →
      ExIn St b0 gN gC gE s k (.func (.func g) #[] caps) (.func (.func 295) #[] #[.pointer (some ⟨gN, 0, none⟩), .pointer (some ⟨gC, 0, none⟩), .pointer (some ⟨gE, 0, none⟩)]) n l K w →
      Own w b 2 v pre.length (spanCell pre) → (0 < pre.length → ¬ K b) →
      Calls Tryz.prog 295 (#[v] ++ #[.pointer (some ⟨gN, 0, none⟩), .pointer (some ⟨gC, 0, none⟩), .pointer (some ⟨gE, 0, none⟩)]) w (CbPost St (l ++ allCh (n.sets.drop pre.length) pre) K w)
  | 0, pre, l, K, v, w, b, hm, hp, hM, hi, hv, hb => by
    have h1 := choices_end St b0 gN gC gE g caps s k _ n hg hf pre l K v w (by omega) hp (by rw [List.drop_eq_nil_of_le (show n.sets.length ≤ pre.length by omega)] at hM; simpa [allCh] using hM) hi (hv.row (fun h0 => ⟨Nat.zero_le _, hv.lt h0⟩))
    have e : n.sets.drop pre.length = [] := List.drop_eq_nil_of_le (by omega)
    rw [e]
    exact h1
  | m + 1, pre, l, K, v, w, b, hm, hp, hM, hi, hv, hb =>
    choices_more St b0 gN gC gE g caps s k n hcb Tryz.call295 h8 hfit pre l K v w b (by omega) hp hM
      (fun pre' l K v w b hl => choices_all St b0 gN gC gE g caps s k n hcb hg hf h8 hfit m pre' l K v w b (by omega)) hi hv hb

end Go.Proofs.YtfmnkojjkjkdeaaGreatDoor
