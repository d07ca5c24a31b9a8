/- Contract: the program's possibleDays. -/
import Derived.Test.YtfajmlkiidnhlaaGreatQ3So
import Derived.Test.YtfajmlkiidnhlaaGreatQ5Tb
import Derived.Test.YtfajmlkiidnhlaaGreatQ5Po
import Derived.Test.YtfajmlkiidnhlaaGreatQ3Us
import Derived.Deep.RegionLaw
import Derived.Deep.RegionHeld3
namespace Go.Proofs.YtfajmlkiidnhlaaGreat
set_option linter.unusedVariables false
set_option linter.unusedSimpArgs false
open Go.RowKit
attribute [local go_sem] cell_onto

/-- the table under way: the variable's box, its rows -/
def PdSt (T b0 lo gO g0 : Nat) (n : Net) (l : List (List Sp)) (K : Nat → Prop) (w : World) : Prop :=
  ∃ (f : Nat → Value), (∀ k, K k ↔ 0 < n.sets.length ∧ Blks g0 n.sets.length f k) ∧ b0 ≤ lo ∧ ¬ K gO ∧ Boxed w gO [.slice (some ⟨g0, 0, none⟩) n.sets.length n.sets.length] ∧
    TabF T w lo g0 n.sets.length (.slice (some ⟨g0, 0, none⟩) n.sets.length n.sets.length) f (fun i => l.map (sAt n i))
theorem PdSt.cb (T b0 lo gO g0 : Nat) (n : Net) : CbOk b0 (PdSt T b0 lo gO g0 n) :=
  ⟨fun h hx => by
    obtain ⟨f, h1, h2, h3, h4, h5⟩ := h
    exact ⟨f, h1, h2, h3, h4.ext hx, h5.ext hx⟩,
   fun h hk => by
    obtain ⟨f, h1, h2, h3, h4, h5⟩ := h
    obtain ⟨a, b⟩ := (h1 _).1 hk
    have := h5.blk a b
    omega⟩
/-- the rows when j of them have the choice's span -/
def pdRow (n : Net) (l : List (List Sp)) (c : List Sp) (j i : Nat) : List Sp := if i < j then l.map (sAt n i) ++ [sAt n i c] else l.map (sAt n i)
theorem pdRow_zero (n : Net) (l : List (List Sp)) (c : List Sp) (i : Nat) : pdRow n l c 0 i = l.map (sAt n i) := by unfold pdRow; rw [if_neg (by omega)]
theorem pdRow_end (n : Net) (l : List (List Sp)) (c : List Sp) {j i : Nat} (h : i < j) : pdRow n l c j i = (l ++ [c]).map (sAt n i) := by unfold pdRow; rw [if_pos h, List.map_append]; rfl
theorem pdRow_at (n : Net) (l : List (List Sp)) (c : List Sp) (j : Nat) : pdRow n l c j j = l.map (sAt n j) := by unfold pdRow; rw [if_neg (by omega)]
theorem pdRow_succ (n : Net) (l : List (List Sp)) (c : List Sp) (j i : Nat) : pdRow n l c (j + 1) i = if i = j then pdRow n l c j j ++ [sAt n j c] else pdRow n l c j i := by
  rw [pdRow_at]
  unfold pdRow
  by_cases e : i = j
  · subst e; rw [if_pos (by omega), if_pos rfl]
  · rw [if_neg e]
    by_cases e2 : i < j
    · rw [if_pos (by omega), if_pos e2]
    · rw [if_neg (by omega), if_neg e2]
/-- the rounds of the callback -/
structure PdR (T lo gO g0 : Nat) (n : Net) (l : List (List Sp)) (c : List Sp) (K : Nat → Prop) (f : Nat → Value) (w : World) (j : Nat) (f1 : Nat → Value) (wr : World) : Prop where
  off : Off K w wr
  blk : ∀ k, Blks g0 n.sets.length f1 k → Blks g0 n.sets.length f k ∨ w.heap.size ≤ k
  box : Boxed wr gO [.slice (some ⟨g0, 0, none⟩) n.sets.length n.sets.length]
  tab : TabF T wr lo g0 n.sets.length (.slice (some ⟨g0, 0, none⟩) n.sets.length n.sets.length) f1 (pdRow n l c j)
theorem PdR.no {T lo gO g0 : Nat} {n : Net} {l : List (List Sp)} {c : List Sp} {K : Nat → Prop} {f f1 : Nat → Value} {w wr : World} {j : Nat} (h : PdR T lo gO g0 n l c K f w j f1 wr) (hK : ∀ k, K k ↔ 0 < n.sets.length ∧ Blks g0 n.sets.length f k) (hgo : ¬ K gO) (hgz : gO < w.heap.size) (hN : 0 < n.sets.length) : ¬ Blks g0 n.sets.length f1 gO := fun hh => by
  rcases h.blk _ hh with e | e
  · exact hgo ((hK _).2 ⟨hN, e⟩)
  · omega
theorem PdR.step {T lo gO g0 m : Nat} {n : Net} {l : List (List Sp)} {c : List Sp} {K : Nat → Prop} {f f1 : Nat → Value} {w wr W w3 : World} {j : Nat} {u v3 : Value} (h : PdR T lo gO g0 n l c K f w j f1 wr) (hK : ∀ k, K k ↔ 0 < n.sets.length ∧ Blks g0 n.sets.length f k) (hgo : ¬ K gO) (hgz : gO < w.heap.size)
    (hi : j < n.sets.length) (ej : f1 j = u) (hm : l.length = m) (hx : Ext wr W) (hp : Put lo W u w3 v3)
    (hr : w3.ownsRow lo T 2 v3 (m + 1) (cellsOf ((l.map (sAt n j)).length * 2) (spanCell (l.map (sAt n j))) ++ cellsOf (1 * 2) (spanCell [sAt n j c]))) :
    PdR T lo gO g0 n l c K f w (j + 1) (fun t => if t = j then v3 else f1 t) (w3.setCell ⟨g0, j, none⟩ v3) := by
  subst ej hm
  have hN : 0 < n.sets.length := by omega
  have hno := h.no hK hgo hgz hN
  have hr' : w3.ownsRow lo T 2 v3 ((pdRow n l c j j).length + 1) (cellsOf ((pdRow n l c j j).length * 2) (spanCell (pdRow n l c j j)) ++ cellsOf (1 * 2) (spanCell [sAt n j c])) := by
    rw [pdRow_at, List.length_map]
    rw [List.length_map] at hr
    exact hr
  obtain ⟨h1, h2, h3⟩ := h.tab.push hi hx hp hr'
  rw [Nat.zero_add] at h1 h2
  have hz := h.off.size
  refine ⟨h.off.more h2 (fun k hk => ?_), fun k hk => ?_, h.box.off h2 hno, h1.congr (fun i _ => pdRow_succ n l c j i)⟩
  · rcases h.blk k hk with e | e
    · exact .inl ((hK k).2 ⟨hN, e⟩)
    · exact .inr e
  · rcases h3 k hk with e | e
    · exact h.blk k e
    · exact .inr (by omega)
theorem PdR.done {T b0 lo gO g0 : Nat} {n : Net} {l : List (List Sp)} {c : List Sp} {K : Nat → Prop} {f f1 : Nat → Value} {w wr : World} (h : PdR T lo gO g0 n l c K f w n.sets.length f1 wr) (hK : ∀ k, K k ↔ 0 < n.sets.length ∧ Blks g0 n.sets.length f k) (hgo : ¬ K gO) (hgz : gO < w.heap.size) (hb : b0 ≤ lo) :
    CbPost (PdSt T b0 lo gO g0 n) (l ++ [c]) K w (.returned (.tuple #[])) wr := by
  refine ⟨fun k => 0 < n.sets.length ∧ Blks g0 n.sets.length f1 k, rfl, ⟨f1, fun _ => Iff.rfl, hb, fun hh => h.no hK hgo hgz hh.1 hh.2, h.box, h.tab.congr (fun i hi => (pdRow_end n l c hi).symm)⟩, h.off, fun k hk => ?_⟩
  rcases h.blk k hk.2 with e | e
  · exact .inl ((hK k).2 ⟨hk.1, e⟩)
  · exact .inr e
set_option maxRecDepth 100000 in
set_option maxHeartbeats 4000000 in
theorem possibleDays_1 (b0 lo gO g0 : Nat) (n : Net) (hM : (allCh n.sets []).length ≤ 4096) (h8 : n.sets.length ≤ 8) :
    SbCalls b0 (PdSt 89 b0 lo gO g0 n) 129 #[.pointer (some ⟨gO, 0, none⟩)] n := by
  intro l K c v1 v2 g1 g2 w hch hok hl hst ho1 ho2 hg
  obtain ⟨A1, q1, rfl⟩ := ho1.len
  obtain ⟨A2, q2, rfl⟩ := ho2.len
  have hcl := hch.len
  rw [hcl] at ho1 ho2 hg
  obtain ⟨f, hK, hb, hgo, hbo, htab⟩ := hst
  have hl4 : l.length < 4096 := by omega
  have Hcl := Lib.hid hcl
  have HK := Lib.hid hK
  have Hgo := Lib.hid hgo
  have Ho1 := Lib.hid ho1
  have Ho2 := Lib.hid ho2
  have Hg := Lib.hid hg
  have hgz := hbo.1
  have Hbo := Lib.hid hbo
  have Htab := Lib.hid htab
  have htb0 := htab.at0
  clear hK hgo ho1 ho2 hg hbo htab hch hok hl
  rw [hcl]
  clear hcl
  go_enter Tryz.func129, Tryz.ntmps129
  go_wp2_with fail
  go_loopg [8] n.sets.length (fun q i wr => ∃ (j : Nat) (f1 : Nat → Value), j + q = n.sets.length ∧ i = .int .i64 j ∧ Hid (PdR 89 lo gO g0 n l c K f w j f1 wr))
  case atStart => exact ⟨0, f, by omega, rfl, Lib.hid ⟨Off.refl _ _, fun _ h => .inl h, Hbo.out, Htab.out.congr (fun i _ => pdRow_zero n l c i)⟩⟩
  case round =>
    obtain ⟨j, f1, hj, rfl, HR⟩ := hrel
    by_cases hlt : j < n.sets.length
    · have hN : 0 < n.sets.length := by omega
      have hwr := HR.out.off.size
      have ob0 := HR.out.box.at0
      have obg := HR.out.box.1
      obtain ⟨off0, e0, hg0, hhd⟩ := HR.out.tab.head.at_ hN
      injection e0 with e0
      injection e0 with _ e0
      subst e0
      obtain ⟨hc1, hc2⟩ := hhd j (by omega)
      rw [Nat.zero_add] at hc1 hc2
      have hrow := HR.out.tab.rows j hlt
      rw [pdRow_at] at hrow
      obtain ⟨Aj, cj, ej⟩ := ownsRow_len hrow
      have Hej := Lib.hid ej
      have Hrow := Lib.hid hrow
      have Hrw : Hid (∀ w', Ext wr w' → w'.ownsRow lo 89 2 (.slice Aj l.length cj) l.length (cellsOf ((l.map (sAt n j)).length * 2) (spanCell (l.map (sAt n j))))) := Lib.hid (fun w' hx => by
        have h1 := row_ext hrow hx
        rw [ej] at h1
        simp only [List.length_map] at h1 ⊢
        exact h1)
      rw [ej] at hc1
      obtain ⟨o1, rfl, hz1, hl1⟩ := (Ho1.out.off HR.out.off (fun h0 => (Hg.out h0).2.2.2.1)).at_ hN
      obtain ⟨o2, rfl, hz2, hl2⟩ := (Ho2.out.off HR.out.off (fun h0 => (Hg.out h0).2.2.2.2)).at_ hN
      have d1 := (hl1 j (by omega)).1
      have d2 := (hl2 j (by omega)).1
      have hml : (l.map (sAt n j)).length = l.length := by simp
      rw [hml] at hc1
      have hji : (j : Int) < (n.sets.length : Int) := by omega
      have hj0 : (0 : Int) ≤ (j : Int) := by omega
      unfold intCell at d1 d2
      generalize hx1 : inAt (lowV n.links c) j = x1 at *
      generalize hx2 : inAt (highV n.links c) j = x2 at *
      have Hsat : Hid (sAt n j c = ⟨x1, x2⟩) := Lib.hid (by unfold sAt; rw [hx1, hx2])
      clear hx1 hx2 hl1 hl2 hhd ej hrow hml
      have hlo : lo ≤ wr.heap.size := by have := HR.out.tab.at0; omega
      have hne0 : gO ≠ g0 := fun e => Hgo.out ((HK.out _).2 ⟨hN, .inl e⟩)
      have hne1 : g0 ≠ gO := fun e => hne0 e.symm
      go_wp2_with fail
      have Hob := Lib.hid (show ∀ k, Value.ownBlock (.slice Aj l.length cj) = some k → k ≠ gO ∧ k ≠ g0 from fun k hk => by
        have ej' : f1 j = .slice Aj l.length cj := by have := Hej.out; simp only [List.length_map] at this; exact this
        rw [← ej'] at hk
        exact ⟨fun e => HR.out.no HK.out Hgo.out hgz hN (by rw [← e]; exact .inr ⟨j, hlt, hk⟩), HR.out.tab.ne j hlt k hk⟩)
      have Hej' := Lib.hid (show f1 j = .slice Aj l.length cj from by have := Hej.out; simp only [List.length_map] at this; exact this)
      go_region_law (first
        | (refine step_append_row rfl (.tmp 16) (.tmp 26) 41 rfl lo 89 2 16 Tryz.underlying41 (by kernel_rfl) (by omega) _ l.length 1 _ rfl (.inl (Hrw.out _ (by repeat (first | exact Ext.refl _ | assumption | refine Ext.alloc ?_ _ | refine Ext.drew ?_ | refine Ext.drewN ?_ _ | refine Ext.setCell ?_ (by first | (simp; done) | (simp; omega) | omega) _ | refine Ext.trans ?_ (by assumption))))) (.inr (by omega)) 0 _ _ (spanCell [⟨x1, x2⟩]) rfl (((Boxed.new wr [.int .i64 x1, .int .i64 x2] 89).ext (by repeat (first | exact Ext.refl _ | assumption | refine Ext.alloc ?_ _ | refine Ext.drew ?_ | refine Ext.drewN ?_ _ | refine Ext.setCell ?_ (by first | (simp; done) | (simp; omega) | omega) _ | refine Ext.trans ?_ (by assumption)))).row rfl (span_cells _ _)) (fun i _ => spanCell_one _ i) (by unfold maxLen; omega) (by omega) (by simp; omega) ?_; intro v3 w3 hown3 hput3; obtain ⟨Av3, cv3, rfl⟩ := ownsRow_len hown3; have hoff3 := (Off.of_ext (S := fun k => lo ≤ k ∧ k < _ ∧ Value.ownBlock (.slice Aj l.length cj) = some k) (show Ext wr _ from (by repeat (first | exact Ext.refl _ | assumption | refine Ext.alloc ?_ _ | refine Ext.drew ?_ | refine Ext.drewN ?_ _ | refine Ext.setCell ?_ (by first | (simp; done) | (simp; omega) | omega) _ | refine Ext.trans ?_ (by assumption))))).trans hput3.1; have k1 := (hoff3.cell (p := ⟨gO, 0, none⟩) obg (fun hh => (Hob.out _ hh.2.2).1 rfl)).trans ob0; have k2 := (hoff3.cell (p := ⟨g0, j, none⟩) hg0 (fun hh => (Hob.out _ hh.2.2).2 rfl)).trans hc1; have k3 := (hoff3.frozen (p := ⟨g0, j, none⟩) hg0 (fun hh => (Hob.out _ hh.2.2).2 rfl)).trans hc2; have Hst := Lib.hid (HR.out.step HK.out Hgo.out hgz hlt Hej'.out rfl (show Ext wr _ from (by repeat (first | exact Ext.refl _ | assumption | refine Ext.alloc ?_ _ | refine Ext.drew ?_ | refine Ext.drewN ?_ _ | refine Ext.setCell ?_ (by first | (simp; done) | (simp; omega) | omega) _ | refine Ext.trans ?_ (by assumption)))) hput3 (by rw [Hsat.out]; exact hown3)); clear hoff3 hown3 hput3))
      all_goals
        clear k1 k2 k3 hc1 hc2 ob0 obg d1 d2
        go_wp2_with fail
        go_roundg (n.sets.length - (j + 1))
        case measure => omega
        case rel => exact ⟨j + 1, _, by omega, by go_num, Hst⟩
    · obtain rfl : j = n.sets.length := by omega
      have Hdone := Lib.hid (HR.out.done HK.out Hgo.out hgz hb)
      go_wp2_with fail
      refine bodyPost_end (results_none rfl _ _ _) rfl ?_
      exact Hdone.out
theorem allCh_len (n : Net) : (allCh n.sets []).length = prodN n.sets := by
  have : ∀ (l : List (List Sp)) (pre : List Sp), (allCh l pre).length = prodN l := by
    intro l
    induction l with
    | nil => intro pre; rfl
    | cons s r ih =>
      intro pre
      show (s.flatMap (fun x => allCh r (pre ++ [x]))).length = s.length * prodN r
      rw [List.length_flatMap]
      have h2 : s.map (fun x => (allCh r (pre ++ [x])).length) = s.map (fun _ => prodN r) := List.map_congr_left (fun x _ => ih _)
      rw [h2]
      clear h2
      induction s with
      | nil => simp
      | cons a t iht => simp only [List.map_cons, List.sum_cons, iht, List.length_cons, Nat.succ_mul]; omega
  exact this _ _
end Go.Proofs.YtfajmlkiidnhlaaGreat
