/- Texts merged (a claim holds at most sixty files): Ab, Ah, Aj. -/
import Derived.Test.YtbddkmlfjghllaaGreatDoorLaM
import Derived.Test.YtbddkmlfjghllaaGreatDoorM1Us
import Derived.Test.YtbddkmlfjghllaaGreatDoorT1Aa
import Derived.Test.YtbddkmlfjghllaaGreatDoorT1Jc
import Derived.Test.YtbddkmlfjghllaaGreatDoorT1Js
import Derived.Deep.RegionHeld3
import Derived.Deep.RegionLaw
import Derived.Test.YtbddkmlfjghllaaGreatDoorT1Ai
import Derived.Test.YtbddkmlfjghllaaGreatDoorT1Ke
import Derived.StillTailTactics
import Derived.IntWalk
import Derived.Test.YtbddkmlfjghllaaGreatDoorT1Ae
/- The library's sort and copy at a row of marks. -/
namespace Go.Proofs.YtbddkmlfjghllaaGreatDoor
set_option linter.unusedVariables false
set_option linter.unusedSimpArgs false
open Go.RowKit Go.Sort
attribute [local go_sem] cell_onto

/-- nothing but draws and new blocks -/
def Grw (w w' : World) : Prop := ∃ (q : Nat) (os' : Array Obj), w' = grow (w.drewN q) os'
theorem Grw.refl (w : World) : Grw w w := ⟨0, #[], by rw [grow_empty]; rfl⟩
theorem grow_drewN (w : World) (os : Array Obj) (q : Nat) : (grow w os).drewN q = grow (w.drewN q) os := rfl
theorem drewN_drewN (w : World) (p q : Nat) : (w.drewN p).drewN q = w.drewN (p + q) := by
  unfold World.drewN
  simp [Nat.add_assoc]
theorem Grw.trans {a b c : World} (h : Grw a b) (k : Grw b c) : Grw a c := by
  obtain ⟨p, os, rfl⟩ := h
  obtain ⟨q, os', rfl⟩ := k
  exact ⟨p + q, os ++ os', by rw [grow_drewN, grow_grow, drewN_drewN]⟩
theorem Grw.alloc {a b : World} (h : Grw a b) (o : Obj) : Grw a (b.alloc o) := h.trans ⟨0, #[o], by rw [alloc_eq_grow]; rfl⟩
theorem Grw.drew {a b : World} (h : Grw a b) : Grw a b.drew := h.trans ⟨1, #[], by rw [grow_empty]; rfl⟩
theorem Grw.drewN {a b : World} (h : Grw a b) (n : Nat) : Grw a (b.drewN n) := h.trans ⟨n, #[], by rw [grow_empty]⟩
theorem Grw.ext {a b : World} (h : Grw a b) : Ext a b := by
  obtain ⟨q, os, rfl⟩ := h
  exact ((Ext.refl a).drewN q).grow os
theorem grw_keep6 {w w' : World} {p q : Nat} {a b d e : Value} (hx : Grw w w') (hp : p < w.heap.size) (hq : q < w.heap.size) (h0 : w.cell? ⟨p, 0, none⟩ = some a) (h1 : w.cell? ⟨p, 1, none⟩ = some b) (h2 : w.cell? ⟨q, 0, none⟩ = some d) (h3 : w.cell? ⟨q, 1, none⟩ = some e) :
    Grw w w' ∧ w'.cell? ⟨p, 0, none⟩ = some a ∧ w'.cell? ⟨p, 1, none⟩ = some b ∧ w'.cell? ⟨q, 0, none⟩ = some d ∧ w'.cell? ⟨q, 1, none⟩ = some e :=
  ⟨hx, (hx.ext.cell (p := ⟨p, 0, none⟩) hp).trans h0, (hx.ext.cell (p := ⟨p, 1, none⟩) hp).trans h1, (hx.ext.cell (p := ⟨q, 0, none⟩) hq).trans h2, (hx.ext.cell (p := ⟨q, 1, none⟩) hq).trans h3⟩
set_option maxHeartbeats 2000000 in
theorem compareMarks_grw (a b : Nsp) (w : World) : Calls Tryz.prog 47 #[.agg #[.string a.nm, .int .i64 a.fr, .int .i64 a.to], .agg #[.string b.nm, .int .i64 b.fr, .int .i64 b.to]] w (fun e w' => e = .returned (.int .i64 (cmpM a b)) ∧ Grw w w') := by
  have Hc := Lib.hid (fun W => cmp_Compare a.fr b.fr W)
  have ec : (if a.fr < b.fr then (-1 : Int) else if b.fr < a.fr then 1 else 0) = cmpI a.fr b.fr := rfl
  have em : cmpM a b = if cmpS a.nm b.nm = 0 then cmpI a.fr b.fr else cmpS a.nm b.nm := rfl
  rw [ec] at Hc
  rw [em]
  clear ec em
  have Hs := Lib.hid (fun W => cmp_CompareS a.nm b.nm W)
  generalize cmpI a.fr b.fr = y at *
  generalize cmpS a.nm b.nm = x at *
  have Ho := Lib.hid (fun g W hb => cmp_Or2 x y g W hb)
  generalize (if x = 0 then y else x) = z at *
  go_enter Tryz.func47, Tryz.ntmps47
  go_wp2_with fail
  obtain ⟨w2, hw2⟩ : ∃ x : World, x = ((w.alloc (.cells #[.string a.nm, .int .i64 a.fr, .int .i64 a.to] 88)).alloc (.cells #[.string b.nm, .int .i64 b.fr, .int .i64 b.to] 88)) := ⟨_, rfl⟩
  have hx2 : Grw w w2 := by rw [hw2]; exact ((Grw.refl w).alloc _).alloc _
  have hA : Boxed w2 w.heap.size [.string a.nm, .int .i64 a.fr, .int .i64 a.to] := by rw [hw2]; exact (Boxed.new w [.string a.nm, .int .i64 a.fr, .int .i64 a.to] 88).ext ((Ext.refl _).alloc _)
  have hB : Boxed w2 (w.heap.size + 1) [.string b.nm, .int .i64 b.fr, .int .i64 b.to] := by
    rw [hw2]
    have := Boxed.new (w.alloc (.cells #[.string a.nm, .int .i64 a.fr, .int .i64 a.to] 88)) [.string b.nm, .int .i64 b.fr, .int .i64 b.to] 88
    rwa [World.size_alloc] at this
  have a0 := hA.at0
  have a1 := hA.at1
  have ag := hA.1
  have b0 := hB.at0
  have b1 := hB.at1
  have bg := hB.1
  rw [← hw2]
  clear hA hB hw2
  go_region_held3 (fun w' => Grw w2 w' ∧ w'.cell? ⟨w.heap.size, 0, none⟩ = some (.string a.nm) ∧ w'.cell? ⟨w.heap.size, 1, none⟩ = some (.int .i64 a.fr) ∧ w'.cell? ⟨w.heap.size + 1, 0, none⟩ = some (.string b.nm) ∧ w'.cell? ⟨w.heap.size + 1, 1, none⟩ = some (.int .i64 b.fr))
    (exact grw_keep6 (by repeat (first | assumption | exact (by assumption : Grw w2 _ ∧ _).1 | exact Grw.refl _ | refine Grw.drew ?_ | refine Grw.alloc ?_ _)) ag bg a0 a1 b0 b1)
    (first
      | (go_at_call 93; refine Calls.mono (Hs.out _) ?_; rintro e w5 ⟨rfl, rfl⟩)
      | (go_at_call 94; refine Calls.mono (Hc.out _) ?_; rintro e w6 ⟨rfl, rfl⟩)
      | (go_at_call 92; refine Calls.mono (Ho.out _ _ (Boxed.new _ [.int .i64 x, .int .i64 y] 3)) ?_; rintro e w7 ⟨rfl, rfl⟩))
  all_goals
    have hE := (by assumption : Grw w2 _ ∧ _).1
    go_wp2_with fail
    go_ret
    exact ⟨rfl, hx2.trans (by repeat (first | exact hE | refine Grw.alloc ?_ _ | refine Grw.drew ?_ | assumption))⟩
instance nspInh : Inhabited Nsp := ⟨⟨⟨#[]⟩, 0, 0⟩⟩
def encM (s : Nsp) : List Value := [.string s.nm, .int .i64 s.fr, .int .i64 s.to]
theorem ltM (x y : Nsp) : ltOf cmpM x y = true ↔ MkLt x y := by
  unfold ltOf
  rw [decide_eq_true_eq]
  exact cmpM_neg x y
theorem ltM_no (x y : Nsp) : ltOf cmpM x y = false ↔ ¬ MkLt x y := by
  rw [← ltM]; simp
theorem swoM : SWO (ltOf cmpM) where
  irrefl x := (ltM_no x x).2 (MkLt.irr x)
  trans x y z h1 h2 := (ltM x z).2 (MkLt.trans ((ltM x y).1 h1) ((ltM y z).1 h2))
  ntrans x y z h1 h2 := by
    rw [ltM_no] at *
    intro h
    by_cases k : MkLt y x
    · exact h2 (k.trans h)
    · obtain ⟨e1, e2⟩ := MkLt.tri h1 k
      apply h2
      rcases h with h | ⟨h, h'⟩
      · exact .inl (by rw [← e1]; exact h)
      · exact .inr ⟨by rw [← e1]; exact h, by rw [← e2]; exact h'⟩
theorem encM_one (x : Nsp) (v : Value) (hv : v ∈ encM x) : v.oneCell' = true := by
  simp [encM] at hv
  rcases hv with rfl | rfl | rfl <;> rfl
theorem encM_at (s : Nsp) (t : Nat) : (encM s)[t % 3]! = if t % 3 = 0 then .string s.nm else if t % 3 = 1 then .int .i64 s.fr else .int .i64 s.to := by
  have h : t % 3 = 0 ∨ t % 3 = 1 ∨ t % 3 = 2 := by omega
  rcases h with h | h | h <;> rw [h] <;> rfl
theorem nspAt_arr (d : Array Nsp) (i : Nat) : d[i]! = nspAt d.toList i := by
  unfold nspAt
  rw [List.getD_eq_getElem?_getD, Array.getElem?_toList]
  by_cases h : i < d.size
  · rw [getElem!_pos d i h, Array.getElem?_eq_getElem h]; rfl
  · rw [getElem!_neg d i h, Array.getElem?_eq_none (by omega)]; rfl
theorem flatM (d : Array Nsp) (t : Nat) (h : t < d.size * 3) : (flatK encM 3 d)[t]! = nspCell d.toList t := by
  rw [get_flatK _ _ _ _ h, encM_at, nspAt_arr]
  rfl
theorem flatM_list (d : Array Nsp) : (flatK encM 3 d).toList = cellsOf (d.size * 3) (nspCell d.toList) := by
  refine List.ext_getElem? (fun i => ?_)
  by_cases h : i < d.size * 3
  · rw [cellsOf_at h, ← flatM d i h, Array.getElem?_toList, Array.getElem?_eq_getElem (by rw [size_flatK]; exact h), getElem!_pos _ i (by rw [size_flatK]; exact h)]
  · rw [List.getElem?_eq_none (by rw [Array.length_toList, size_flatK]; omega), List.getElem?_eq_none (by rw [cellsOf_len]; omega)]
theorem holdsM {w : World} {base g cap : Nat} {T : TypeId} {l : List Nsp} (h : RowNsp w base T (.slice (some ⟨g, 0, none⟩) l.length cap) l) : HoldsK encM 3 w g 0 l.toArray := by
  intro j hj
  rw [size_flatK] at hj
  have hj' : j < l.length * 3 := by simpa using hj
  rw [Nat.zero_add, flatM l.toArray j hj]
  have h1 := World.ownsRow.cellAt h j (by omega)
  rw [cellsOf_at hj'] at h1
  exact ⟨h1, World.ownsRow.frozenAt h j⟩
theorem sortRowM {w : World} {base g cap n : Nat} {T : TypeId} {l : List Nsp} {d : Array Nsp} {os : Array Obj} (h : RowNsp w base T (.slice (some ⟨g, 0, none⟩) l.length cap) l) (hs : d.size = l.length) :
    RowNsp (sortWorldK encM 3 w g 0 n d os) base T (.slice (some ⟨g, 0, none⟩) l.length cap) d.toList ∧ ∀ w0, Ext w0 w → w0.heap.size ≤ g → Ext w0 (sortWorldK encM 3 w g 0 n d os) := by
  have e : sortWorldK encM 3 w g 0 n d os = Go.Sort.grow ((w.drewN n).setCells g 0 (flatK encM 3 d).toList) os := by
    have h1 := Lib.putRow_eq_setCells id w g 0 (flatK encM 3 l.toArray) (flatK encM 3 d).toList n (holdsM h) (by simp [hs])
    rw [List.map_id] at h1
    unfold sortWorldK putRowK
    rw [← h1]
  rw [e]
  refine ⟨?_, fun w0 hx hg => ((hx.drewN n).setCells hg _ 0).grow os⟩
  have h2 : RowNsp (w.drewN n) base T (.slice (some ⟨g, 0, none⟩) l.length cap) l := h.ext ((Ext.refl w).drewN n)
  have h3 := ownsRow_storedL (flatK encM 3 d).toList 0 _ _ h2
  rw [setL_all _ _ (by rw [cellsOf_len, Array.length_toList, size_flatK, hs]), flatM_list, hs] at h3
  have h4 := row_ext h3 ((Ext.refl _).grow os)
  have e4 : d.toList.length = l.length := by rw [Array.length_toList]; exact hs
  unfold RowNsp
  rw [e4, flatM_list, hs]
  exact h4
theorem permM {d : Array Nsp} {l : List Nsp} (h : PermIn 0 l.toArray.size l.toArray d) : d.toList.Perm l := by
  obtain ⟨h1, _, h3⟩ := h
  have e1 : d.extract 0 l.toArray.size = d := by rw [← h1]; exact Array.extract_size
  have e2 : l.toArray.extract 0 l.toArray.size = l.toArray := Array.extract_size
  rw [e1, e2] at h3
  exact h3
theorem sortedM {d : Array Nsp} (h : SortedIn (ltOf cmpM) 0 d.size d) : ∀ i k, i < k → k < d.toList.length → ¬ MkLt (nspAt d.toList k) (nspAt d.toList i) := fun i k hik hk => by
  have := h i k (Nat.zero_le _) hik (by simpa using hk)
  rw [nspAt_arr, nspAt_arr, ltM_no] at this
  exact this
theorem marks_cmp (blk off size : Nat) (w : World) : CmpLays Tryz.prog 47 #[] encM 3 cmpM blk off size w :=
  fun _ _ _ _ x y => Calls.mono (compareMarks_grw x y _) (fun _ _ h => h)
set_option maxHeartbeats 4000000 in
/-- the sort at a row of marks -/
theorem sort_marks (w : World) (A : Option Addr) (cap base : Nat) (l : List Nsp) (h : RowNsp w base 88 (.slice A l.length cap) l) (h0 : 0 < l.length) (hl : l.length ≤ 1048576) :
    Calls Tryz.prog 46 #[.slice A l.length cap, .func (.func 47) #[] #[]] w (fun e w' => e = .returned (.tuple #[]) ∧ ∃ l', l'.Perm l ∧ (∀ i k, i < k → k < l'.length → ¬ MkLt (nspAt l' k) (nspAt l' i)) ∧ RowNsp w' base 88 (.slice A l.length cap) l' ∧ ∀ w0, Ext w0 w → w0.heap.size ≤ base → Ext w0 w') := by
  rcases h.2 with ⟨_, h0'⟩ | ⟨g, cap', cur, e1, hg, hh, _⟩
  · exact absurd h0' (by omega)
  · injection e1 with e1 _ e3
    subst e1 e3
    have hgs : g < w.heap.size := (Array.getElem?_eq_some_iff.1 hh).1
    have eg : ∀ args w, (callFunc 47 args).run Tryz.prog w = .ok (.enter 47 args) w := enters_of Tryz.func47 (by kernel_rfl) rfl
    have hcon := AnyQ.slices_SortFunc Tryz.sortMk 3 Tryz.isAgg88 Tryz.sizeOf88 encM (fun _ => rfl) encM_one cmpM swoM 47 #[] g 0 cap l.toArray w eg (marks_cmp g 0 _ w) (holdsM h) hgs (by simp; omega)
    refine Calls.mono hcon ?_
    rintro e w' ⟨rfl, d, n, os, hp, hs, rfl⟩
    have hpl := permM hp
    have hd : d.size = l.length := by have := hp.1; simpa using this
    obtain ⟨h1, h2⟩ := sortRowM (n := n) (os := os) (d := d) h hd
    exact ⟨rfl, d.toList, hpl, sortedM (by have := hs; rw [show l.toArray.size = d.size by simp [hd]] at this; exact this), h1, fun w0 hx hb0 => h2 w0 hx (by omega)⟩
set_option maxHeartbeats 1000000 in
theorem slices_Clone_marks (v : Value) (l : List Nsp) (w : World) (h : Nsps w 0 w.heap.size v l) (hsm : l.length ≤ 1048576) :
    Calls Tryz.prog 45 #[v] w (NewOwn 88 3 l.length (nspCell l) w) := by
  obtain ⟨A, c, rfl, hn, hc⟩ := h.len
  have H := Lib.hid h
  clear h
  have q := fun (w : World) (a : Option Addr) (n c n' c' : Nat) => Lib.run_eql_slice_nil (P := Tryz.prog) w 24 88 a n c n' c' Tryz.underlying24
  cases A with
  | none =>
    have h0 : l.length = 0 := by
      obtain ⟨_, A', c', e, _, hr⟩ := H.out
      rcases Nat.eq_zero_or_pos l.length with h0 | h0
      · exact h0
      · obtain ⟨b, off, hA, _⟩ := hr h0
        rw [hA] at e
        cases e
    have H0 := Lib.hid h0
    clear h0
    go_enter Tryz.func45, Tryz.ntmps45
    go_wp2_with fail
    go_ret
    refine ⟨_, rfl, (by repeat (first | exact Ext.refl _ | assumption | refine Ext.alloc ?_ _ | refine Ext.drew ?_ | refine Ext.drewN ?_ _ | refine Ext.setCell ?_ (by first | (simp; done) | (simp; omega) | omega) _ | refine Ext.trans ?_ (by assumption))), ?_⟩
    rw [H0.out]
    simpa [cellsOf] using nil_row w w.heap.size 88 3
  | some a =>
    go_enter Tryz.func45, Tryz.ntmps45
    go_wp2_with (at_builtin; refine wpList_append_row _ rfl _ _ 24 rfl w.heap.size 88 3 32 Tryz.underlying24 (by kernel_rfl) (by omega) _ 0 l.length [] rfl (.inl (World.ownsRow_made w #[] 0 (Nat.le_refl _) (Nat.zero_le _) rfl)) (.inl (World.ownsRow_made w #[] 0 (Nat.le_refl _) (Nat.zero_le _) rfl)) 0 w.heap.size _ (nspCell l) rfl (H.out.ext ((Ext.refl w).alloc _) (Nat.le_refl _)) (fun i _ => nspCell_one l i) (by unfold maxLen; omega) (by omega) (by simp) ?_; intro v' w1 hown hput)
    have Hown := Lib.hid hown
    have Hx := Lib.hid (hput.ext ((Ext.refl w).alloc (.cells #[] 88)) (Nat.le_refl _))
    clear hown hput
    go_wp2_with fail
    go_ret
    refine ⟨_, rfl, Hx.out, ?_⟩
    have h2 := Hown.out
    simp only [Nat.zero_add, List.nil_append] at h2
    exact h2
end Go.Proofs.YtbddkmlfjghllaaGreatDoor

/- Contract: RecordUse, the program's. (Printed by genAh.py.) -/
namespace Go.Proofs.YtbddkmlfjghllaaGreatDoor
set_option linter.unusedVariables false
set_option linter.unusedSimpArgs false
open Go.RowKit
attribute [local go_sem] cell_onto

/-- two results: marks, and a code -/
def NewMksD (l : List Nsp) (e0 : Int) (w : World) (e : Ending) (w' : World) : Prop :=
  ∃ v, e = .returned (.tuple #[v, .int .i64 e0]) ∧ Ext w w' ∧ Nsps w' 0 w'.heap.size v l
theorem NewMksD.nil (e0 : Int) {w w' : World} (h : Ext w w') : NewMksD [] e0 w (.returned (.tuple #[.slice none 0 0, .int .i64 e0])) w' :=
  ⟨_, rfl, h, Nat.zero_le _, none, 0, rfl, Nat.le_refl _, fun h => absurd h (by simp)⟩
theorem NewMksD.of {T : TypeId} {l : List Nsp} {e0 : Int} {w w' : World} {v : Value} {base : Nat} (h : Ext w w') (hr : RowNsp w' base T v l) : NewMksD l e0 w (.returned (.tuple #[v, .int .i64 e0])) w' :=
  ⟨v, rfl, h, hr.rows⟩
theorem set_cells1 {m : List Nsp} {p : Nat} (hp : p < m.length) (y : Int) : (cellsOf (m.length * 3) (nspCell m)).set (p * 3 + 1) (.int .i64 y) = cellsOf ((m.set p ⟨(nspAt m p).nm, y, (nspAt m p).to⟩).length * 3) (nspCell (m.set p ⟨(nspAt m p).nm, y, (nspAt m p).to⟩)) := by
  rw [List.length_set]
  refine List.ext_getElem? (fun i => ?_)
  rw [List.getElem?_set, cellsOf_len]
  by_cases hi : i < m.length * 3
  · rw [cellsOf_at hi, cellsOf_at hi]
    by_cases e : p * 3 + 1 = i
    · rw [if_pos e, if_pos (by omega)]
      congr 1
      unfold nspCell
      rw [if_neg (by omega), if_pos (by omega), nspAt_set, if_pos ⟨by omega, by omega⟩]
    · rw [if_neg e]
      congr 1
      unfold nspCell
      rw [nspAt_set]
      by_cases e2 : i / 3 = p ∧ i / 3 < m.length
      · rw [if_pos e2, e2.1]
        by_cases c0 : i % 3 = 0
        · rw [if_pos c0, if_pos c0]
        · rw [if_neg c0, if_neg c0]
          by_cases c1 : i % 3 = 1
          · exfalso; have := e2.1; omega
          · rw [if_neg c1, if_neg c1]
      · rw [if_neg e2]
  · rw [List.getElem?_eq_none (by rw [cellsOf_len]; omega), List.getElem?_eq_none (by rw [cellsOf_len]; omega), if_neg (show ¬ p * 3 + 1 = i by omega)]
theorem RowNsp.setFr {w : World} {base g c n : Nat} {T : TypeId} {m : List Nsp} {p : Nat} (h : RowNsp w base T (.slice (some ⟨g, 0, none⟩) n c) m) (hn : n = m.length) (hp : p < m.length) (y : Int) :
    RowNsp (w.setCell ⟨g, p * 3 + 1, none⟩ (.int .i64 y)) base T (.slice (some ⟨g, 0, none⟩) n c) (m.set p ⟨(nspAt m p).nm, y, (nspAt m p).to⟩) := by
  subst hn
  have h1 := (World.ownsRow.stored h (p * 3 + 1) (.int .i64 y)).1
  unfold RowNsp
  rw [← set_cells1 hp y, List.length_set]
  exact h1
theorem RowNsp.setHit {w : World} {base g c n : Nat} {T : TypeId} {m : List Nsp} {p : Nat} {d : Int} (h : RowNsp w base T (.slice (some ⟨g, 0, none⟩) n c) m) (hn : n = m.length) (hp : p < m.length) {a z : Int} (ha : a = min (nspAt m p).fr d) (hz : z = max (nspAt m p).to d) :
    RowNsp ((w.setCell ⟨g, p * 3 + 1, none⟩ (.int .i64 a)).setCell ⟨g, p * 3 + 2, none⟩ (.int .i64 z)) base T (.slice (some ⟨g, 0, none⟩) n c) (hitM m d p) := by
  subst ha hz
  have h1 := h.setFr hn hp (min (nspAt m p).fr d)
  have h2 := h1.setTo (by rw [List.length_set]; exact hn) (by rw [List.length_set]; exact hp) (max (nspAt m p).to d)
  rw [nspAt_set, if_pos ⟨rfl, hp⟩, List.set_set] at h2
  exact h2
theorem sorted_ins {l l' : List Nsp} {x : Nsp} (h : MksOk l) (hf : Fresh l x) (hp : l'.Perm (l ++ [x])) (hso : ∀ i k, i < k → k < l'.length → ¬ MkLt (nspAt l' k) (nspAt l' i)) : l' = insF l x := by
  have hsl : Srt l := fun i k hik hk => mks_lt h.2 k i hik hk
  have s1 := srt_of_le hp ⟨insF l x, insF_perm l _, insF_srt hsl hf⟩ hso
  exact srt_unique (hp.trans (insF_perm l _).symm) s1 (insF_srt hsl hf)
set_option maxRecDepth 100000 in
set_option maxHeartbeats 8000000 in
theorem impl_RecordUse (v : Value) (l : List Nsp) (name : ByteArray) (n away : Int) (w : World) (h : Nsps w 0 w.heap.size v l) : Calls Tryz.prog 8 #[v, .string name, .int .i64 n, .int .i64 away] w (NewMksD (recL l name n away) (recE l name n away) w) := by
  obtain ⟨A, c, rfl, hn, hc⟩ := h.len
  have H := Lib.hid h
  clear h
  go_enter Tryz.func8, Tryz.ntmps8
  go_wp2_with fail
  refine Calls.mono (impl_AreMarks _ l _ H.out) ?_
  rintro e w1 ⟨rfl, hx1⟩
  by_cases hok : MksOk l
  case neg =>
    have Hm := Lib.hid (rec_no (name := name) (n := n) (away := away) hok)
    rw [B_false hok]
    go_wp2_with fail
    go_ret2
    rw [Hm.out.1, Hm.out.2]
    exact NewMksD.nil 1 (by repeat (first | exact Ext.refl _ | assumption | refine Ext.alloc ?_ _ | refine Ext.drew ?_ | refine Ext.drewN ?_ _ | refine Ext.setCell ?_ (by first | (simp; done) | (simp; omega) | omega) _ | refine Ext.trans ?_ (by assumption)))
  rw [B_true hok]
  have Hok := Lib.hid hok
  have hl40 := hok.1
  have Harg := Lib.hid (fun h => rec_arg (l := l) (name := name) (n := n) (away := away) hok h)
  have Hhit := Lib.hid (fun i h1 h2 h3 h4 => rec_hit (l := l) (name := name) (n := n) (away := away) hok h1 (i := i) h2 h3 h4)
  have Hfull := Lib.hid (fun h1 h2 h3 => rec_full (l := l) (name := name) (n := n) (away := away) hok h1 h2 h3)
  have Hnew := Lib.hid (fun h1 h2 h3 => rec_new (l := l) (name := name) (n := n) (away := away) hok h1 h2 h3)
  clear hok
  by_cases hd : DayOk n
  case neg =>
    have Hm := Lib.hid (Harg.out (fun t => hd t.1))
    have Hd := Lib.hid (B_false hd)
    clear hd
    go_wp2_with fail
    refine Calls.mono (impl_isDay_b Hd.out _) ?_
    rintro e w2 ⟨rfl, rfl⟩
    go_wp2_with fail
    go_ret2
    rw [Hm.out.1, Hm.out.2]
    exact NewMksD.nil 2 (by repeat (first | exact Ext.refl _ | assumption | refine Ext.alloc ?_ _ | refine Ext.drew ?_ | refine Ext.drewN ?_ _ | refine Ext.setCell ?_ (by first | (simp; done) | (simp; omega) | omega) _ | refine Ext.trans ?_ (by assumption)))
  have Hd := Lib.hid (B_true hd)
  have Hd1 := Lib.hid hd
  clear hd
  go_wp2_with fail
  refine Calls.mono (impl_isDay_b Hd.out _) ?_
  rintro e w2 ⟨rfl, rfl⟩
  by_cases hs : NameOk name 12
  case neg =>
    have Hm := Lib.hid (Harg.out (fun t => hs t.2.1))
    have Hs := Lib.hid (B_false hs)
    clear hs
    go_wp2_with fail
    refine Calls.mono (impl_isSmall_b Hs.out _ (by omega)) ?_
    rintro e w3 ⟨rfl, hx3⟩
    go_wp2_with fail
    go_ret2
    rw [Hm.out.1, Hm.out.2]
    exact NewMksD.nil 2 (by repeat (first | exact Ext.refl _ | assumption | refine Ext.alloc ?_ _ | refine Ext.drew ?_ | refine Ext.drewN ?_ _ | refine Ext.setCell ?_ (by first | (simp; done) | (simp; omega) | omega) _ | refine Ext.trans ?_ (by assumption)))
  have Hs := Lib.hid (B_true hs)
  have Hs1 := Lib.hid hs
  clear hs
  go_wp2_with fail
  refine Calls.mono (impl_isSmall_b Hs.out _ (by omega)) ?_
  rintro e w3 ⟨rfl, hx3⟩
  by_cases ha : 0 ≤ away ∧ away ≤ 10000
  case neg =>
    have Hm := Lib.hid (Harg.out (fun t => ha t.2.2))
    have Ha := Lib.hid (B_false ha)
    clear ha
    go_wp2_with fail
    refine Calls.mono (impl_within_k Ha.out _) ?_
    rintro e w4 ⟨rfl, rfl⟩
    go_wp2_with fail
    go_ret2
    rw [Hm.out.1, Hm.out.2]
    exact NewMksD.nil 2 (by repeat (first | exact Ext.refl _ | assumption | refine Ext.alloc ?_ _ | refine Ext.drew ?_ | refine Ext.drewN ?_ _ | refine Ext.setCell ?_ (by first | (simp; done) | (simp; omega) | omega) _ | refine Ext.trans ?_ (by assumption)))
  have Ha := Lib.hid (B_true ha)
  have Hrg := Lib.hid (show RecArg name n away from ⟨Hd1.out, Hs1.out, ha⟩)
  have ha0 := ha.1
  have ha1 := ha.2
  clear ha
  go_wp2_with fail
  refine Calls.mono (impl_within_k Ha.out _) ?_
  rintro e w4 ⟨rfl, rfl⟩
  have hxw3 : Ext w w3 := hx1.trans hx3
  go_wp2_with fail
  refine Calls.mono (slices_Clone_marks _ l _ (H.out.up hxw3) (by omega)) ?_
  rintro e w5 ⟨u5, rfl, hx5, ho5⟩
  have hxw5 : Ext w w5 := hxw3.trans hx5
  have hr5 : RowNsp w5 w3.heap.size 88 u5 l := ho5
  have Hr5 := Lib.hid hr5
  obtain ⟨A5, c5, rfl⟩ := ownsRow_len hr5
  clear ho5 hr5
  go_wp2_with fail
  go_loopg [11, 12, 35] l.length (fun q u11 u12 i wr => ∃ j : Nat, j + q = l.length ∧ i = .int .i64 j ∧ Ext w5 wr ∧ Hid (∀ k, k < j → ¬ Hit l name n away k))
  case atStart => exact ⟨0, by omega, rfl, (by repeat (first | exact Ext.refl _ | assumption | refine Ext.alloc ?_ _ | refine Ext.drew ?_ | refine Ext.drewN ?_ _ | refine Ext.setCell ?_ (by first | (simp; done) | (simp; omega) | omega) _ | refine Ext.trans ?_ (by assumption))), Lib.hid (fun k hk => absurd hk (by omega))⟩
  case round =>
    obtain ⟨j, hj, rfl, hx, Hno⟩ := hrel
    have hxw : Ext w wr := hxw5.trans hx
    have hz3 := (hx5.trans hx).size
    have Hr := Lib.hid (Hr5.out.ext hx)
    by_cases hlt : j < l.length
    · obtain ⟨g, rfl, hg, hgs, hcell⟩ := Hr.out.cells (by omega)
      have k0 := hcell (j * 3) (by omega)
      have k1 := hcell (j * 3 + 1) (by omega)
      have k2 := hcell (j * 3 + 2) (by omega)
      rw [nspCell_0] at k0
      rw [nspCell_1] at k1
      rw [nspCell_2] at k2
      obtain ⟨d0, -⟩ := k0
      obtain ⟨d1, f1⟩ := k1
      obtain ⟨d2, f2⟩ := k2
      clear hcell
      obtain ⟨⟨_, ⟨b0, b1⟩, ⟨b2, b3⟩, _⟩, _⟩ := Hok.out.2 j hlt
      have Hht := Lib.hid (show Hit l name n away j ↔ (nspAt l j).nm = name ∧ (nspAt l j).fr - away ≤ n ∧ n ≤ (nspAt l j).to + away from Iff.rfl)
      have W1 : IntKind.i64.wrap ((nspAt l j).fr - away) = (nspAt l j).fr - away := IntWalk.i64_in _ (by omega)
      have W2 : IntKind.i64.wrap ((nspAt l j).to + away) = (nspAt l j).to + away := IntWalk.i64_in _ (by omega)
      by_cases he : (nspAt l j).nm = name
      · have T2 := str_is he
        by_cases hw : (nspAt l j).fr - away ≤ n ∧ n ≤ (nspAt l j).to + away
        · have Hw := Lib.hid (B_true hw)
          have Hm := Lib.hid (Hhit.out j Hrg.out hlt (Hht.out.2 ⟨he, hw⟩) Hno.out)
          clear he hw
          go_wp2_with fail
          (refine wp_region_onto prog_mixed (by kernel_rfl) ?_; (repeat (go_big_quiet_step ((go_at_call 44; exact onto_callS (impl_within_k Hw.out _))))); refine onto_end ?_; intro w6 hx6)
          have hg6 : g < w6.heap.size := Nat.lt_of_lt_of_le hgs hx6.size
          replace d0 := (hx6.cell (p := ⟨g, j * 3, none⟩) hgs).trans d0
          replace d1 := (hx6.cell (p := ⟨g, j * 3 + 1, none⟩) hgs).trans d1
          replace d2 := (hx6.cell (p := ⟨g, j * 3 + 2, none⟩) hgs).trans d2
          replace f1 := (hx6.frozen (p := ⟨g, j * 3 + 1, none⟩) hgs).trans f1
          replace f2 := (hx6.frozen (p := ⟨g, j * 3 + 2, none⟩) hgs).trans f2
          have Hr6 := Lib.hid (Hr.out.ext hx6)
          have hx36 : Ext w3 w6 := (hx5.trans hx).trans hx6
          go_upto_region 11 with fail
          go_region_law (fail)
          all_goals go_wp2_with fail
          all_goals
            go_ret2
            rw [Hm.out.1, Hm.out.2]
            exact NewMksD.of (hxw3.trans (by repeat (first | exact Ext.refl _ | assumption | refine Ext.alloc ?_ _ | refine Ext.drew ?_ | refine Ext.drewN ?_ _ | refine Ext.setCell ?_ (by first | (simp; done) | (simp; omega) | omega) _ | refine Ext.trans ?_ (by assumption)))) (Hr6.out.setHit rfl hlt (by omega) (by omega))
        · have Hw := Lib.hid (B_false hw)
          have Hk := Lib.hid (show ¬ Hit l name n away j from fun h => hw (Hht.out.1 h).2)
          clear he hw
          go_wp2_with fail
          (refine wp_region_onto prog_mixed (by kernel_rfl) ?_; (repeat (go_big_quiet_step ((go_at_call 44; exact onto_callS (impl_within_k Hw.out _))))); refine onto_end ?_; intro w6 hx6)
          go_wp2_with fail
          go_roundg (l.length - (j + 1))
          case measure => omega
          case rel => exact ⟨j + 1, by omega, by go_num, hx.trans hx6, Lib.hid (fun k hk => by
            by_cases e : k = j
            · subst e; exact Hk.out
            · exact Hno.out k (by omega))⟩
      · have T2 := str_ne he
        have Hk := Lib.hid (show ¬ Hit l name n away j from fun h => he (Hht.out.1 h).1)
        clear he
        go_wp2_with fail
        (refine wp_region_onto prog_mixed (by kernel_rfl) ?_; (repeat (go_big_quiet_step ((go_at_call 44; fail)))); refine onto_end ?_; intro w6 hx6)
        go_wp2_with fail
        go_roundg (l.length - (j + 1))
        case measure => omega
        case rel => exact ⟨j + 1, by omega, by go_num, hx.trans hx6, Lib.hid (fun k hk => by
          by_cases e : k = j
          · subst e; exact Hk.out
          · exact Hno.out k (by omega))⟩
    · obtain rfl : j = l.length := by omega
      by_cases hf : l.length = 40
      · have Hm := Lib.hid (Hfull.out Hrg.out Hno.out hf)
        have hfi : (l.length : Int) = 40 := by omega
        have hfb : ((l.length : Int) == 40) = true := by simpa using hfi
        clear hf
        go_wp2_with fail
        go_ret2
        rw [Hm.out.1, Hm.out.2]
        exact NewMksD.nil 3 (by repeat (first | exact Ext.refl _ | assumption | refine Ext.alloc ?_ _ | refine Ext.drew ?_ | refine Ext.drewN ?_ _ | refine Ext.setCell ?_ (by first | (simp; done) | (simp; omega) | omega) _ | refine Ext.trans ?_ (by assumption)))
      · have Hm := Lib.hid (Hnew.out Hrg.out Hno.out hf)
        have hfi : ¬ (l.length : Int) = 40 := by omega
        have hfb : ((l.length : Int) == 40) = false := by simpa using hfi
        have Hfr := Lib.hid (miss_fresh Hok.out ha0 Hno.out)
        clear hf
        have Hsrc : Hid (∀ W, Row (World.alloc W (.cells #[.string name, .int .i64 n, .int .i64 n] 88)) 0 (World.alloc W (.cells #[.string name, .int .i64 n, .int .i64 n] 88)).heap.size 3 (.slice (some ⟨W.heap.size, 0, none⟩) 1 1) 1 (nspCell [⟨name, n, n⟩])) := Lib.hid (fun W => (Boxed.new W [.string name, .int .i64 n, .int .i64 n] 88).row rfl (fun i hi => by
          have hi : i < 3 := hi
          have h3 : i = 0 ∨ i = 1 ∨ i = 2 := by omega
          rcases h3 with rfl | rfl | rfl <;> rfl))
        go_wp2_with (at_builtin; refine wpList_append_row _ rfl _ _ 24 rfl w3.heap.size 88 3 32 Tryz.underlying24 (by kernel_rfl) (by omega) _ l.length 1 _ rfl (.inl (row_ext Hr.out (by repeat (first | exact Ext.refl _ | assumption | refine Ext.alloc ?_ _ | refine Ext.drew ?_ | refine Ext.drewN ?_ _ | refine Ext.setCell ?_ (by first | (simp; done) | (simp; omega) | omega) _ | refine Ext.trans ?_ (by assumption))))) (.inr (by omega)) 0 _ _ (nspCell [⟨name, n, n⟩]) rfl (Hsrc.out _) (fun i _ => nspCell_one _ i) (by unfold maxLen; omega) (by omega) (by simp; omega) ?_; intro v7 w7 hown7 hput7; have Hrow7 := Lib.hid (RowNsp.push hown7); have Hx7 := Lib.hid (hput7.ext (show Ext w3 _ from (hx5.trans hx).trans (by repeat (first | exact Ext.refl _ | assumption | refine Ext.alloc ?_ _ | refine Ext.drew ?_ | refine Ext.drewN ?_ _ | refine Ext.setCell ?_ (by first | (simp; done) | (simp; omega) | omega) _ | refine Ext.trans ?_ (by assumption)))) (Nat.le_refl _)); clear hown7 hput7)
        have e1 : (l ++ [(⟨name, n, n⟩ : Nsp)]).length = l.length + 1 := by simp
        obtain ⟨A7, c7, rfl⟩ := ownsRow_len Hrow7.out
        have q1 : 0 < (l ++ [(⟨name, n, n⟩ : Nsp)]).length := by rw [e1]; exact Nat.succ_pos _
        have q2 : (l ++ [(⟨name, n, n⟩ : Nsp)]).length ≤ 1048576 := by rw [e1]; omega
        have hq := sort_marks _ A7 c7 w3.heap.size (l ++ [⟨name, n, n⟩]) Hrow7.out q1 q2
        refine Calls.mono hq ?_
        clear hq
        rintro e w8 ⟨rfl, l', hp, hso, hr8, hx8⟩
        have hx8 := hx8 w3 Hx7.out (Nat.le_refl _)
        have e3 := sorted_ins Hok.out Hfr.out hp hso
        subst e3
        rw [e1] at hr8
        have Hr8 := Lib.hid hr8
        clear hr8 hso hp
        go_wp2_with fail
        go_ret2
        rw [Hm.out.1, Hm.out.2]
        exact NewMksD.of (hxw3.trans (by repeat (first | exact Ext.refl _ | assumption | refine Ext.alloc ?_ _ | refine Ext.drew ?_ | refine Ext.drewN ?_ _ | refine Ext.setCell ?_ (by first | (simp; done) | (simp; omega) | omega) _ | refine Ext.trans ?_ (by assumption)))) Hr8.out
end Go.Proofs.YtbddkmlfjghllaaGreatDoor

/- Contract: RecordUse, the reference's. (Printed by genAj.py.) -/
namespace Go.Proofs.YtbddkmlfjghllaaGreatDoor
set_option linter.unusedVariables false
set_option linter.unusedSimpArgs false
open Go.RowKit
attribute [local go_sem] cell_onto

set_option maxRecDepth 100000 in
set_option maxHeartbeats 8000000 in
theorem spec_RecordUse (v : Value) (l : List Nsp) (name : ByteArray) (n away : Int) (w : World) (h : Nsps w 0 w.heap.size v l) (hsm : NSm l) (hns : name.size ≤ 1048576) : Calls Tryz.prog 9 #[v, .string name, .int .i64 n, .int .i64 away] w (NewMksD (recL l name n away) (recE l name n away) w) := by
  obtain ⟨A, c, rfl, hn, hc⟩ := h.len
  have H := Lib.hid h
  clear h
  go_enter Tryz.func9, Tryz.ntmps9
  go_wp2_with fail
  refine Calls.mono (spec_AreMarks _ l _ H.out hsm) ?_
  rintro e w1 ⟨rfl, hx1⟩
  by_cases hok : MksOk l
  case neg =>
    have Hm := Lib.hid (rec_no (name := name) (n := n) (away := away) hok)
    rw [B_false hok]
    go_wp2_with fail
    go_ret2
    rw [Hm.out.1, Hm.out.2]
    exact NewMksD.nil 1 (by repeat (first | exact Ext.refl _ | assumption | refine Ext.alloc ?_ _ | refine Ext.drew ?_ | refine Ext.drewN ?_ _ | refine Ext.setCell ?_ (by first | (simp; done) | (simp; omega) | omega) _ | refine Ext.trans ?_ (by assumption)))
  rw [B_true hok]
  have Hok := Lib.hid hok
  have hl40 := hok.1
  have Harg := Lib.hid (fun h => rec_arg (l := l) (name := name) (n := n) (away := away) hok h)
  have Hhit := Lib.hid (fun i h1 h2 h3 h4 => rec_hit (l := l) (name := name) (n := n) (away := away) hok h1 (i := i) h2 h3 h4)
  have Hfull := Lib.hid (fun h1 h2 h3 => rec_full (l := l) (name := name) (n := n) (away := away) hok h1 h2 h3)
  have Hnew := Lib.hid (fun h1 h2 h3 => rec_new (l := l) (name := name) (n := n) (away := away) hok h1 h2 h3)
  clear hok
  by_cases hs : NameOk name 12
  case neg =>
    have Hm := Lib.hid (Harg.out (fun t => hs t.2.1))
    have Hs := Lib.hid (B_false hs)
    clear hs
    go_wp2_with fail
    refine Calls.mono (spec_l01Name_b Hs.out _ (by omega)) ?_
    rintro e w3 ⟨rfl, rfl⟩
    go_wp2_with fail
    go_ret2
    rw [Hm.out.1, Hm.out.2]
    exact NewMksD.nil 2 (by repeat (first | exact Ext.refl _ | assumption | refine Ext.alloc ?_ _ | refine Ext.drew ?_ | refine Ext.drewN ?_ _ | refine Ext.setCell ?_ (by first | (simp; done) | (simp; omega) | omega) _ | refine Ext.trans ?_ (by assumption)))
  have Hs := Lib.hid (B_true hs)
  have Hs1 := Lib.hid hs
  clear hs
  go_wp2_with fail
  refine Calls.mono (spec_l01Name_b Hs.out _ (by omega)) ?_
  rintro e w3 ⟨rfl, rfl⟩
  by_cases hd : DayOk n
  case neg =>
    have Hm := Lib.hid (Harg.out (fun t => hd t.1))
    have Hd := Lib.hid (B_false hd)
    clear hd
    go_wp2_with fail
    refine Calls.mono (spec_l01Day_b Hd.out _) ?_
    rintro e w2 ⟨rfl, rfl⟩
    go_wp2_with fail
    go_ret2
    rw [Hm.out.1, Hm.out.2]
    exact NewMksD.nil 2 (by repeat (first | exact Ext.refl _ | assumption | refine Ext.alloc ?_ _ | refine Ext.drew ?_ | refine Ext.drewN ?_ _ | refine Ext.setCell ?_ (by first | (simp; done) | (simp; omega) | omega) _ | refine Ext.trans ?_ (by assumption)))
  have Hd := Lib.hid (B_true hd)
  have Hd1 := Lib.hid hd
  clear hd
  go_wp2_with fail
  refine Calls.mono (spec_l01Day_b Hd.out _) ?_
  rintro e w2 ⟨rfl, rfl⟩
  by_cases ha : 0 ≤ away ∧ away ≤ 10000
  case neg =>
    have Hm := Lib.hid (Harg.out (fun t => ha t.2.2))
    have Ha := Lib.hid (B_false ha)
    clear ha
    go_wp2_with fail
    refine Calls.mono (spec_l01In_k Ha.out _) ?_
    rintro e w4 ⟨rfl, rfl⟩
    go_wp2_with fail
    go_ret2
    rw [Hm.out.1, Hm.out.2]
    exact NewMksD.nil 2 (by repeat (first | exact Ext.refl _ | assumption | refine Ext.alloc ?_ _ | refine Ext.drew ?_ | refine Ext.drewN ?_ _ | refine Ext.setCell ?_ (by first | (simp; done) | (simp; omega) | omega) _ | refine Ext.trans ?_ (by assumption)))
  have Ha := Lib.hid (B_true ha)
  have Hrg := Lib.hid (show RecArg name n away from ⟨Hd1.out, Hs1.out, ha⟩)
  have ha0 := ha.1
  have ha1 := ha.2
  clear ha
  go_wp2_with fail
  refine Calls.mono (spec_l01In_k Ha.out _) ?_
  rintro e w4 ⟨rfl, rfl⟩
  have Hl1 := Lib.hid (H.out.up hx1)
  go_wp2_with (at_builtin; refine wpList_append_row _ rfl _ _ 24 rfl w1.heap.size 88 3 32 Tryz.underlying24 (by kernel_rfl) (by omega) _ 0 l.length [] rfl (.inl (World.ownsRow_made w1 #[] 0 (Nat.le_refl _) (Nat.zero_le _) rfl)) (.inl (World.ownsRow_made w1 #[] 0 (Nat.le_refl _) (Nat.zero_le _) rfl)) 0 w1.heap.size _ (nspCell l) rfl (Hl1.out.ext ((Ext.refl w1).alloc _) (Nat.le_refl _)) (fun i _ => nspCell_one l i) (by unfold maxLen; omega) (by omega) (by simp) ?_; intro v5 w5 hown5 hput5; have hx5 := hput5.ext ((Ext.refl w1).alloc (.cells #[] 88)) (Nat.le_refl _); have hr5 : RowNsp w5 w1.heap.size 88 v5 l := (by simp only [Nat.zero_add, List.nil_append] at hown5; exact hown5); clear hown5 hput5; obtain ⟨A5, c5, rfl⟩ := ownsRow_len hr5; have Hr5 := Lib.hid hr5; clear hr5)
  go_loopg [11, 12] l.length (fun q u11 i wr => ∃ (j : Nat) (b : Bool) (m : List Nsp), j + q = l.length ∧ i = .int .i64 j ∧ u11 = .bool b ∧ m.length = l.length ∧ Ext w1 wr ∧ Hid (RowNsp wr w1.heap.size 88 (.slice A5 l.length c5) m) ∧ Hid ((b = false ∧ m = l ∧ ∀ k, k < j → ¬ Hit l name n away k) ∨ (b = true ∧ ∃ i, i < l.length ∧ Hit l name n away i ∧ (∀ k, k < i → ¬ Hit l name n away k) ∧ m = hitM l n i)))
  case atStart => exact ⟨0, false, l, by omega, rfl, rfl, rfl, (by repeat (first | exact Ext.refl _ | assumption | refine Ext.alloc ?_ _ | refine Ext.drew ?_ | refine Ext.drewN ?_ _ | refine Ext.setCell ?_ (by first | (simp; done) | (simp; omega) | omega) _ | refine Ext.trans ?_ (by assumption))), Hr5, Lib.hid (.inl ⟨rfl, rfl, fun k hk => absurd hk (by omega)⟩)⟩
  case round =>
    obtain ⟨j, b, m, hj, rfl, rfl, hml, hx, Hr, Hq⟩ := hrel
    have hxw : Ext w wr := hx1.trans hx
    have hz3 := hx.size
    have Hml := Lib.hid hml
    clear hml
    cases b with
    | true =>
      obtain ⟨i, hi, hhi, hno, em⟩ := (Hq.out.resolve_left (fun h => by cases h.1)).2
      subst em
      have Hm := Lib.hid (Hhit.out i Hrg.out hi hhi hno)
      have Hsr := Lib.hid (hit_srt Hok.out ha0 hi hhi hno)
      clear hhi hno
      have hS := Hr.out
      rw [← Hml.out] at hS
      have HS := Lib.hid hS.rows
      by_cases hlt : j < l.length
      · go_wp2_with fail
        have q2 : (hitM l n i).length ≤ 1048576 := by rw [Hml.out]; omega
        have hq := spec_l16Sorted _ (hitM l n i) wr HS.out q2
        rw [Hml.out] at hq
        refine Calls.mono hq ?_
        clear hq q2
        rintro e w8 ⟨u8, m8, rfl, hs8, hx8, hr8⟩
        have e8 := sort_srt_all Hsr.out hs8
        subst e8
        obtain ⟨A8, c8, rfl⟩ := ownsRow_len hr8
        rw [Hml.out] at hr8 ⊢
        have Hr8 := Lib.hid hr8
        have hfi : ¬ ((40 : Int) < (l.length : Int)) := by omega
        clear hr8 hs8
        go_wp2_with fail
        go_ret2
        rw [Hm.out.1, Hm.out.2]
        exact NewMksD.of (hxw.trans hx8) Hr8.out
      · have hlti : ¬ (j : Int) < (l.length : Int) := by omega
        go_wp2_with fail
        have q2 : (hitM l n i).length ≤ 1048576 := by rw [Hml.out]; omega
        have hq := spec_l16Sorted _ (hitM l n i) wr HS.out q2
        rw [Hml.out] at hq
        refine Calls.mono hq ?_
        clear hq q2
        rintro e w8 ⟨u8, m8, rfl, hs8, hx8, hr8⟩
        have e8 := sort_srt_all Hsr.out hs8
        subst e8
        obtain ⟨A8, c8, rfl⟩ := ownsRow_len hr8
        rw [Hml.out] at hr8 ⊢
        have Hr8 := Lib.hid hr8
        have hfi : ¬ ((40 : Int) < (l.length : Int)) := by omega
        clear hr8 hs8
        go_wp2_with fail
        go_ret2
        rw [Hm.out.1, Hm.out.2]
        exact NewMksD.of (hxw.trans hx8) Hr8.out
    | false =>
      obtain ⟨em, hno⟩ := (Hq.out.resolve_right (fun h => by cases h.1)).2
      subst em
      have Hno := Lib.hid hno
      clear hno Hml
      by_cases hlt : j < m.length
      · obtain ⟨g, rfl, hg, hgs, hcell⟩ := Hr.out.cells (by omega)
        have k0 := hcell (j * 3) (by omega)
        have k1 := hcell (j * 3 + 1) (by omega)
        have k2 := hcell (j * 3 + 2) (by omega)
        rw [nspCell_0] at k0
        rw [nspCell_1] at k1
        rw [nspCell_2] at k2
        obtain ⟨d0, -⟩ := k0
        obtain ⟨d1, f1⟩ := k1
        obtain ⟨d2, f2⟩ := k2
        clear hcell
        obtain ⟨⟨_, ⟨b0, b1⟩, ⟨b2, b3⟩, _⟩, _⟩ := Hok.out.2 j hlt
        have Hht := Lib.hid (show Hit m name n away j ↔ (nspAt m j).nm = name ∧ (nspAt m j).fr - away ≤ n ∧ n ≤ (nspAt m j).to + away from Iff.rfl)
        have W1 : IntKind.i64.wrap ((nspAt m j).fr - away) = (nspAt m j).fr - away := IntWalk.i64_in _ (by omega)
        have W2 : IntKind.i64.wrap ((nspAt m j).to + away) = (nspAt m j).to + away := IntWalk.i64_in _ (by omega)
        by_cases he : (nspAt m j).nm = name
        · have T2 := str_is he
          by_cases hw : (nspAt m j).fr - away ≤ n ∧ n ≤ (nspAt m j).to + away
          · have Hw := Lib.hid (B_true hw)
            have Hk := Lib.hid (Hht.out.2 ⟨he, hw⟩)
            clear he hw
            go_wp2_with fail
            (refine wp_region_onto prog_mixed (by kernel_rfl) ?_; (repeat (go_big_quiet_step ((go_at_call 51; exact onto_callS (spec_l01In_k Hw.out _))))); refine onto_end ?_; intro w6 hx6)
            have hg6 : g < w6.heap.size := Nat.lt_of_lt_of_le hgs hx6.size
            replace d0 := (hx6.cell (p := ⟨g, j * 3, none⟩) hgs).trans d0
            replace d1 := (hx6.cell (p := ⟨g, j * 3 + 1, none⟩) hgs).trans d1
            replace d2 := (hx6.cell (p := ⟨g, j * 3 + 2, none⟩) hgs).trans d2
            replace f1 := (hx6.frozen (p := ⟨g, j * 3 + 1, none⟩) hgs).trans f1
            replace f2 := (hx6.frozen (p := ⟨g, j * 3 + 2, none⟩) hgs).trans f2
            have Hr6 := Lib.hid (Hr.out.ext hx6)
            have hx16 := hx.trans hx6
            go_wp2_with fail
            all_goals
              go_roundg (m.length - (j + 1))
              case measure => omega
              case rel => exact ⟨j + 1, true, hitM m n j, by omega, by go_num, rfl, by simp [hitM], (by repeat (first | exact Ext.refl _ | assumption | refine Ext.alloc ?_ _ | refine Ext.drew ?_ | refine Ext.drewN ?_ _ | refine Ext.setCell ?_ (by first | (simp; done) | (simp; omega) | omega) _ | refine Ext.trans ?_ (by assumption))), Lib.hid (Hr6.out.setHit rfl hlt (by omega) (by omega)), Lib.hid (.inr ⟨rfl, j, hlt, Hk.out, Hno.out, rfl⟩)⟩
          · have Hw := Lib.hid (B_false hw)
            have Hk := Lib.hid (show ¬ Hit m name n away j from fun h => hw (Hht.out.1 h).2)
            clear he hw
            go_wp2_with fail
            (refine wp_region_onto prog_mixed (by kernel_rfl) ?_; (repeat (go_big_quiet_step ((go_at_call 51; exact onto_callS (spec_l01In_k Hw.out _))))); refine onto_end ?_; intro w6 hx6)
            go_wp2_with fail
            go_roundg (m.length - (j + 1))
            case measure => omega
            case rel => exact ⟨j + 1, false, m, by omega, by go_num, rfl, rfl, hx.trans hx6, Lib.hid (Hr.out.ext hx6), Lib.hid (.inl ⟨rfl, rfl, fun k hk => by
              by_cases e : k = j
              · subst e; exact Hk.out
              · exact Hno.out k (by omega)⟩)⟩
        · have T2 := str_ne he
          have Hk := Lib.hid (show ¬ Hit m name n away j from fun h => he (Hht.out.1 h).1)
          clear he
          go_wp2_with fail
          (refine wp_region_onto prog_mixed (by kernel_rfl) ?_; (repeat (go_big_quiet_step ((go_at_call 51; fail)))); refine onto_end ?_; intro w6 hx6)
          go_wp2_with fail
          go_roundg (m.length - (j + 1))
          case measure => omega
          case rel => exact ⟨j + 1, false, m, by omega, by go_num, rfl, rfl, hx.trans hx6, Lib.hid (Hr.out.ext hx6), Lib.hid (.inl ⟨rfl, rfl, fun k hk => by
            by_cases e : k = j
            · subst e; exact Hk.out
            · exact Hno.out k (by omega)⟩)⟩
      · obtain rfl : j = m.length := by omega
        have Hfr := Lib.hid (miss_fresh Hok.out ha0 Hno.out)
        have Hsrt := Lib.hid (show Srt m from fun i k hik hk => mks_lt Hok.out.2 k i hik hk)
        have Hsrc : Hid (∀ W, Row (World.alloc W (.cells #[.string name, .int .i64 n, .int .i64 n] 88)) 0 (World.alloc W (.cells #[.string name, .int .i64 n, .int .i64 n] 88)).heap.size 3 (.slice (some ⟨W.heap.size, 0, none⟩) 1 1) 1 (nspCell [⟨name, n, n⟩])) := Lib.hid (fun W => (Boxed.new W [.string name, .int .i64 n, .int .i64 n] 88).row rfl (fun i hi => by
          have hi : i < 3 := hi
          have h3 : i = 0 ∨ i = 1 ∨ i = 2 := by omega
          rcases h3 with rfl | rfl | rfl <;> rfl))
        go_wp2_with (at_builtin; refine wpList_append_row _ rfl _ _ 24 rfl w1.heap.size 88 3 32 Tryz.underlying24 (by kernel_rfl) (by omega) _ m.length 1 _ rfl (.inl (row_ext Hr.out (by repeat (first | exact Ext.refl _ | assumption | refine Ext.alloc ?_ _ | refine Ext.drew ?_ | refine Ext.drewN ?_ _ | refine Ext.setCell ?_ (by first | (simp; done) | (simp; omega) | omega) _ | refine Ext.trans ?_ (by assumption))))) (.inr (by omega)) 0 _ _ (nspCell [⟨name, n, n⟩]) rfl (Hsrc.out _) (fun i _ => nspCell_one _ i) (by unfold maxLen; omega) (by omega) (by simp; omega) ?_; intro v7 w7 hown7 hput7; have Hrow7 := Lib.hid (RowNsp.push hown7); have hx7 := hput7.ext (show Ext w1 _ from hx.trans (by repeat (first | exact Ext.refl _ | assumption | refine Ext.alloc ?_ _ | refine Ext.drew ?_ | refine Ext.drewN ?_ _ | refine Ext.setCell ?_ (by first | (simp; done) | (simp; omega) | omega) _ | refine Ext.trans ?_ (by assumption)))) (Nat.le_refl _); clear hown7 hput7)
        have e1 : (m ++ [(⟨name, n, n⟩ : Nsp)]).length = m.length + 1 := by simp
        obtain ⟨A7, c7, rfl⟩ := ownsRow_len Hrow7.out
        have q2 : (m ++ [(⟨name, n, n⟩ : Nsp)]).length ≤ 1048576 := by rw [e1]; omega
        have hq := spec_l16Sorted _ (m ++ [⟨name, n, n⟩]) w7 Hrow7.out.rows q2
        refine Calls.mono hq ?_
        clear hq
        rintro e w8 ⟨u8, m8, rfl, hs8, hx8, hr8⟩
        obtain ⟨p, hp, e8⟩ := sort_new Hsrt.out Hfr.out hs8
        rw [insF_eq hp] at e8
        subst e8
        obtain ⟨A8, c8, rfl⟩ := ownsRow_len hr8
        have e9 := insF_len m ⟨name, n, n⟩
        rw [e9] at hr8 ⊢
        have Hr8 := Lib.hid hr8
        clear hr8 hs8 e9 hp q2 e1
        by_cases hf : m.length = 40
        · have Hm := Lib.hid (Hfull.out Hrg.out Hno.out hf)
          have hfi : ((40 : Int) < (m.length : Int) + 1) := by omega
          clear hf
          go_wp2_with fail
          go_ret2
          rw [Hm.out.1, Hm.out.2]
          exact NewMksD.nil 3 (hx1.trans (hx7.trans (by repeat (first | exact Ext.refl _ | assumption | refine Ext.alloc ?_ _ | refine Ext.drew ?_ | refine Ext.drewN ?_ _ | refine Ext.setCell ?_ (by first | (simp; done) | (simp; omega) | omega) _ | refine Ext.trans ?_ (by assumption)))))
        · have Hm := Lib.hid (Hnew.out Hrg.out Hno.out hf)
          have hfi : ¬ ((40 : Int) < (m.length : Int) + 1) := by omega
          clear hf
          go_wp2_with fail
          go_ret2
          rw [Hm.out.1, Hm.out.2]
          exact NewMksD.of (hx1.trans (hx7.trans hx8)) Hr8.out
end Go.Proofs.YtbddkmlfjghllaaGreatDoor
