/- The library's sort at a row of spans: what it leaves, in words of rows. -/
import Derived.Test.YtfmnkojjkjkdeaaDoorSf
import Derived.Test.YtfmnkojjkjkdeaaDoorMk
import Derived.Test.YtfmnkojjkjkdeaaDoorFo
import Derived.Lib.RowBridge
namespace Go.Proofs.YtfmnkojjkjkdeaaDoor
set_option linter.unusedVariables false
set_option linter.unusedSimpArgs false
open Go.RowKit Go.Sort
attribute [local go_sem] cell_onto

instance spInh : Inhabited Sp := ⟨⟨0, 0⟩⟩
def encSp (s : Sp) : List Value := [.int .i64 s.fr, .int .i64 s.to]
def cfSp (x y : Sp) : Int := if x.fr < y.fr then -1 else if y.fr < x.fr then 1 else 0
theorem ltSp (x y : Sp) : ltOf cfSp x y = decide (x.fr < y.fr) := by
  unfold ltOf cfSp
  by_cases h1 : x.fr < y.fr
  · simp [h1]
  · by_cases h2 : y.fr < x.fr <;> simp [h1, h2]
theorem swoSp : SWO (ltOf cfSp) where
  irrefl x := by rw [ltSp]; simp
  trans x y z h1 h2 := by rw [ltSp] at *; simp at *; omega
  ntrans x y z h1 h2 := by rw [ltSp] at *; simp at *; omega
theorem encSp_one (x : Sp) (v : Value) (hv : v ∈ encSp x) : v.oneCell' = true := by
  simp [encSp] at hv
  rcases hv with rfl | rfl <;> rfl
theorem encSp_at (s : Sp) (t : Nat) : (encSp s)[t % 2]! = if t % 2 = 0 then .int .i64 s.fr else .int .i64 s.to := by
  rcases Nat.mod_two_eq_zero_or_one t with h | h
  · rw [h]; rfl
  · rw [h]; rfl
theorem spAt_arr (d : Array Sp) (i : Nat) : d[i]! = spAt d.toList i := by
  unfold spAt
  rw [List.getD_eq_getElem?_getD, Array.getElem?_toList]
  by_cases h : i < d.size
  · rw [getElem!_pos d i h, Array.getElem?_eq_getElem h]; rfl
  · rw [getElem!_neg d i h, Array.getElem?_eq_none (by omega)]; rfl
theorem flatSp (d : Array Sp) (t : Nat) (h : t < d.size * 2) : (flatK encSp 2 d)[t]! = spanCell d.toList t := by
  rw [get_flatK _ _ _ _ h, encSp_at, spAt_arr]
  rfl
theorem flatSp_list (d : Array Sp) : (flatK encSp 2 d).toList = cellsOf (d.size * 2) (spanCell d.toList) := by
  refine List.ext_getElem? (fun i => ?_)
  by_cases h : i < d.size * 2
  · rw [cellsOf_at h, ← flatSp d i h, Array.getElem?_toList, Array.getElem?_eq_getElem (by rw [size_flatK]; exact h), getElem!_pos _ i (by rw [size_flatK]; exact h)]
  · rw [List.getElem?_eq_none (by rw [Array.length_toList, size_flatK]; omega), List.getElem?_eq_none (by rw [cellsOf_len]; omega)]
def setL : List Value → Nat → List Value → List Value
  | xs, _, [] => xs
  | xs, s, v :: r => setL (xs.set s v) (s + 1) r
theorem setL_len : ∀ (ys xs : List Value) (s : Nat), (setL xs s ys).length = xs.length
  | [], _, _ => rfl
  | v :: r, xs, s => by rw [setL, setL_len r, List.length_set]
theorem setL_get : ∀ (ys xs : List Value) (s i : Nat), s + ys.length ≤ xs.length → (setL xs s ys)[i]? = if s ≤ i ∧ i < s + ys.length then ys[i - s]? else xs[i]?
  | [], xs, s, i, _ => by rw [setL, if_neg (by show ¬ (s ≤ i ∧ i < s + 0); omega)]
  | v :: r, xs, s, i, h => by
    have hl : (v :: r).length = r.length + 1 := rfl
    rw [hl] at h
    rw [setL, setL_get r (xs.set s v) (s + 1) i (by rw [List.length_set]; omega), hl]
    by_cases h1 : s + 1 ≤ i ∧ i < s + 1 + r.length
    · rw [if_pos h1, if_pos (by omega)]
      obtain ⟨k, rfl⟩ : ∃ k, i = s + 1 + k := ⟨i - (s + 1), by omega⟩
      rw [show s + 1 + k - (s + 1) = k by omega, show s + 1 + k - s = k + 1 by omega]
      rfl
    · rw [if_neg h1, List.getElem?_set]
      by_cases e : s = i
      · subst e
        rw [if_pos rfl, if_pos (by omega), if_pos (by omega), Nat.sub_self]
        rfl
      · rw [if_neg e, if_neg (by omega)]
theorem setL_all (xs ys : List Value) (h : ys.length = xs.length) : setL xs 0 ys = ys := by
  refine List.ext_getElem? (fun i => ?_)
  rw [setL_get ys xs 0 i (by omega)]
  by_cases hi : i < ys.length
  · rw [if_pos (by omega), Nat.sub_zero]
  · rw [if_neg (by omega), List.getElem?_eq_none (by omega), List.getElem?_eq_none (by omega)]
theorem ownsRow_storedL {base g n cap size : Nat} {e : TypeId} : ∀ (vs : List Value) (s : Nat) (w : World) (xs : List Value), w.ownsRow base e size (.slice (some ⟨g, 0, none⟩) n cap) n xs → (w.setCells g s vs).ownsRow base e size (.slice (some ⟨g, 0, none⟩) n cap) n (setL xs s vs)
  | [], _, _, _, h => h
  | v :: r, s, w, xs, h => by
    rw [World.setCells, setL]
    exact ownsRow_storedL r (s + 1) _ _ (World.ownsRow.stored h s v).1
theorem Ext.setCells {a : World} {g : Nat} (hg : a.heap.size ≤ g) : ∀ (vs : List Value) (s : Nat) {w : World}, Ext a w → Ext a (w.setCells g s vs)
  | [], _, _, h => h
  | v :: r, s, w, h => by
    rw [World.setCells]
    exact Ext.setCells hg r (s + 1) (h.setCell hg v)
theorem Ext.grow {a w : World} (h : Ext a w) (os : Array Obj) : Ext a (Go.Sort.grow w os) :=
  ⟨h.os, h.tape, h.output, by rw [size_grow]; have := h.size; omega, fun k hk => by rw [heap_grow_old w os (Nat.lt_of_lt_of_le hk h.size)]; exact h.block k hk⟩
theorem holdsSp {w : World} {base g cap : Nat} {T : TypeId} {l : List Sp} (h : RowSp w base T (.slice (some ⟨g, 0, none⟩) l.length cap) l) : HoldsK encSp 2 w g 0 l.toArray := by
  intro j hj
  rw [size_flatK] at hj
  have hj' : j < l.length * 2 := by simpa using hj
  rw [Nat.zero_add, flatSp l.toArray j hj]
  have h1 := World.ownsRow.cellAt h j (by omega)
  rw [cellsOf_at hj'] at h1
  exact ⟨h1, World.ownsRow.frozenAt h j⟩
/-- what the sort leaves -/
theorem sortRow {w : World} {base g cap n : Nat} {T : TypeId} {l : List Sp} {d : Array Sp} {os : Array Obj} (h : RowSp w base T (.slice (some ⟨g, 0, none⟩) l.length cap) l) (hs : d.size = l.length) :
    RowSp (sortWorldK encSp 2 w g 0 n d os) base T (.slice (some ⟨g, 0, none⟩) l.length cap) d.toList ∧ ∀ w0, Ext w0 w → w0.heap.size ≤ g → Ext w0 (sortWorldK encSp 2 w g 0 n d os) := by
  have e : sortWorldK encSp 2 w g 0 n d os = Go.Sort.grow ((w.drewN n).setCells g 0 (flatK encSp 2 d).toList) os := by
    have h1 := Lib.putRow_eq_setCells id w g 0 (flatK encSp 2 l.toArray) (flatK encSp 2 d).toList n (holdsSp h) (by simp [hs])
    rw [List.map_id] at h1
    unfold sortWorldK putRowK
    rw [← h1]
  rw [e]
  refine ⟨?_, fun w0 hx hg => ((hx.drewN n).setCells hg _ 0).grow os⟩
  have h2 : RowSp (w.drewN n) base T (.slice (some ⟨g, 0, none⟩) l.length cap) l := h.ext ((Ext.refl w).drewN n)
  have h3 := ownsRow_storedL (flatK encSp 2 d).toList 0 _ _ h2
  rw [setL_all _ _ (by rw [cellsOf_len, Array.length_toList, size_flatK, hs]), flatSp_list, hs] at h3
  have h4 := row_ext h3 ((Ext.refl _).grow os)
  have e4 : d.toList.length = l.length := by rw [Array.length_toList]; exact hs
  unfold RowSp
  rw [e4, flatSp_list, hs]
  exact h4
/-! ### what a sorted row of the same spans is joined to -/
theorem SortedIn.f {d : Array Sp} (h : SortedIn (ltOf cfSp) 0 d.size d) : SortedF d.toList := fun i k hik hk => by
  have := h i k (Nat.zero_le _) hik (by simpa using hk)
  rw [ltSp, spAt_arr, spAt_arr] at this
  have := of_decide_eq_false this
  omega
theorem PermIn.list {d : Array Sp} {l : List Sp} (h : PermIn 0 l.toArray.size l.toArray d) : d.toList.Perm l := by
  obtain ⟨h1, _, h3⟩ := h
  have e1 : d.extract 0 l.toArray.size = d := by rw [← h1]; exact Array.extract_size
  have e2 : l.toArray.extract 0 l.toArray.size = l.toArray := Array.extract_size
  rw [e1, e2] at h3
  exact h3
theorem perm_all {a b : List Sp} (h : a.Perm b) {P : Sp → Prop} (hb : ∀ i, i < b.length → P (spAt b i)) : ∀ i, i < a.length → P (spAt a i) := fun i hi => by
  obtain ⟨k, hk, e⟩ := mem_spAt (h.mem_iff.1 (spAt_mem hi))
  rw [← e]
  exact hb k hk
theorem perm_days {a b : List Sp} (h : a.Perm b) (d : Int) : HasDay a d ↔ HasDay b d := by
  rw [← hasL_iff, ← hasL_iff]
  unfold HasL
  constructor
  · rintro ⟨s, hs, h2⟩; exact ⟨s, h.mem_iff.1 hs, h2⟩
  · rintro ⟨s, hs, h2⟩; exact ⟨s, h.mem_iff.2 hs, h2⟩
theorem joinL_perm {a b : List Sp} (h : a.Perm b) (hs : SortedF a) (hf : FromTo b) : joinL a = mkL b := by
  have hf' : FromTo a := perm_all (P := fun s => s.fr ≤ s.to) h hf
  obtain ⟨n1, d1⟩ := joinL_ok hs hf'
  obtain ⟨n2, d2⟩ := mkL_ok hf
  exact n1.eq n2 (fun d => (d1 d).trans ((perm_days h d).trans (d2 d).symm))
end Go.Proofs.YtfmnkojjkjkdeaaDoor
