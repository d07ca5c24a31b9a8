/- How the arguments of the laws read: networks, numbers, bytes: from the reading to rows of cells. -/
import Derived.Test.YtbddkmlfjghllaaGreatDoorT1Lib
import Derived.ProofKit
import Derived.Deep.Slices
import Derived.Deep.Fields
import Derived.Lib.SmallJoins
namespace Go.Proofs.YtbddkmlfjghllaaGreatDoor
set_option linter.unusedVariables false
set_option linter.unusedSimpArgs false
open Go.RowKit Go.ChangeShapes Go.WideShapes Go.Deep Go.Joins

theorem spot_of_cell {w : World} {a : Addr} {v : Value} (h : w.cell? a = some v) : a.spot = none := by
  unfold World.cell? at h
  split at h
  · split at h
    · cases h
    · rename_i hs
      simpa using hs
  · cases h
theorem add_spot {a : Addr} (n : Nat) : (a.add n).spot = none → a.spot = none ∨ n ≠ 0 := by
  intro h
  unfold Addr.add at h
  by_cases e : n = 0
  · left; simpa [e] using h
  · exact .inr e

section
variable {H : Type} {enc : TypeId × Value → H} {P : Program} {w : World} {base : Nat} {spare : Nat → Bool} {held : Bool}

/-- a slice of structs whose fields are all int64 -/
theorem open_rows {t e : TypeId} {fs : Array Field} {fuel : Nat} {cs : List Value} {x : DataW H × List MemPlace} (ht : P.underlying t = some (.slice e)) (he : P.underlying e = some (.struct fs))
    (hone : oneCellFields P fs = true) (hC : P.cellsOf e = fs.size) (hk : 0 < fs.size) (hint : ∀ (j : Nat) (f : Field), fs[j]? = some f → P.underlying f.type = some (.int .i64)) (h : DataW.trod enc P w base spare held fuel t cs = some x) :
    ∃ A len cap, cs = [.slice A len cap] ∧ len ≤ cap ∧ len ≤ maxLen ∧ ∃ F : Nat → Int,
      (0 < len → ∃ b off, A = some ⟨b, off, none⟩ ∧ b < w.heap.size ∧ ∀ i, i < len * fs.size → w.cell? ⟨b, off + i, none⟩ = some (.int .i64 (F i))) := by
  rcases open_slice ht h with ⟨h0, _⟩ | ⟨a, len, cap, m, n, D, Pl, hcs, hb, hl, hm, hmm, hx, hi⟩
  · exact ⟨none, 0, 0, h0, Nat.le_refl _, Nat.zero_le _, fun _ => 0, fun hn => absurd hn (by omega)⟩
  · have hlm : len ≤ m := by rw [hmm]; split <;> omega
    have hcell : ∀ i, i < len * fs.size → ∃ z : Int, w.cell? (a.add i) = some (.int .i64 z) := by
      intro i hil
      have hq : i / fs.size < len := by
        rw [Nat.div_lt_iff_lt_mul hk]; exact hil
      have hr : i % fs.size < fs.size := Nat.mod_lt _ hk
      obtain ⟨cs', hc, ht'⟩ := hi (i / fs.size) (by omega)
      obtain ⟨_, hcl, hat⟩ := World.cells?_some hc
      obtain ⟨ys, n', _, _, hlen, hyl, hf⟩ := DataW.trod_struct he ht'
      rw [hC] at hat hcl hc
      obtain ⟨f, hfj⟩ : ∃ f, fs[i % fs.size]? = some f := ⟨fs[i % fs.size], Array.getElem?_eq_getElem hr⟩
      obtain ⟨ho, hk1⟩ := hone_of hone _ f hfj
      have h1 := hf _ f hfj
      rw [ho, hk1] at h1
      have hcj : i % fs.size < cs'.length := by omega
      have hd : (cs'.drop (i % fs.size)).take 1 = [cs'[i % fs.size]] := by
        rw [List.drop_eq_getElem_cons hcj]
        rfl
      rw [hd] at h1
      have hyj : ys[i % fs.size]? = some (ys[i % fs.size]'(by omega)) := List.getElem?_eq_getElem (by omega)
      obtain ⟨z, hz, _, _⟩ := DataW.trod_int (hint _ f hfj) (h1.trans hyj)
      refine ⟨z, ?_⟩
      have hc1 := hat (i % fs.size) hr
      rw [Go.Deep.add_add, Nat.div_add_mod' i fs.size, List.getElem?_eq_getElem hcj] at hc1
      rw [hc1]
      simpa using hz
    refine ⟨some a, len, cap, hcs, hl, by omega, ?_⟩
    by_cases h0 : 0 < len
    · have hpos : 0 < len * fs.size := Nat.mul_pos h0 hk
      obtain ⟨z0, hz0⟩ := hcell 0 hpos
      have ha0 : a.add 0 = a := by simp [Addr.add]
      rw [ha0] at hz0
      have hsp := spot_of_cell hz0
      have hlt := World.block_lt_of_cell? w a hz0
      have hae : a = ⟨a.block, a.off, none⟩ := by rw [← hsp]
      obtain ⟨F, hF⟩ := choose_lt (p := fun i (z : Int) => w.cell? (a.add i) = some (.int .i64 z)) hcell
      refine ⟨F, fun _ => ⟨a.block, a.off, by rw [← hae], hlt, fun i hil => ?_⟩⟩
      have := hF i hil
      rw [hae, Addr.add_lit] at this
      exact this
    · exact ⟨fun _ => 0, fun hn => absurd hn h0⟩

theorem open_spans {t e : TypeId} {fs : Array Field} {fuel : Nat} {cs : List Value} {x : DataW H × List MemPlace} (ht : P.underlying t = some (.slice e)) (he : P.underlying e = some (.struct fs))
    (hone : oneCellFields P fs = true) (hC : P.cellsOf e = 2) (hfs : fs.size = 2) (hint : ∀ (j : Nat) (f : Field), fs[j]? = some f → P.underlying f.type = some (.int .i64)) (h : DataW.trod enc P w base spare held fuel t cs = some x) :
    ∃ v l, cs = [v] ∧ Spans w 0 w.heap.size v l := by
  obtain ⟨A, len, cap, hcs, hlc, hm, F, hr⟩ := open_rows ht he hone (by omega) (by omega) hint h
  refine ⟨_, (List.range len).map (fun i => ⟨F (2 * i), F (2 * i + 1)⟩), hcs, ?_⟩
  have hl : ((List.range len).map (fun i => (⟨F (2 * i), F (2 * i + 1)⟩ : Sp))).length = len := by simp
  unfold Spans
  rw [hl]
  refine ⟨hm, A, cap, rfl, hlc, fun hn => ?_⟩
  obtain ⟨b, off, hA, hb, hc⟩ := hr hn
  refine ⟨b, off, hA, Nat.zero_le _, hb, fun i hi => ?_⟩
  rw [hfs] at hc
  rw [hc i hi]
  have hq : i / 2 < len := by omega
  have hg : spAt ((List.range len).map (fun i => (⟨F (2 * i), F (2 * i + 1)⟩ : Sp))) (i / 2) = ⟨F (2 * (i / 2)), F (2 * (i / 2) + 1)⟩ := by
    unfold spAt
    simp [List.getD, hq]
  unfold spanCell
  rw [hg]
  by_cases e : i % 2 = 0
  · rw [if_pos e, show 2 * (i / 2) = i from by omega]
  · rw [if_neg e, show 2 * (i / 2) + 1 = i from by omega]
theorem open_links {t e : TypeId} {fs : Array Field} {fuel : Nat} {cs : List Value} {x : DataW H × List MemPlace} (ht : P.underlying t = some (.slice e)) (he : P.underlying e = some (.struct fs))
    (hone : oneCellFields P fs = true) (hC : P.cellsOf e = 4) (hfs : fs.size = 4) (hint : ∀ (j : Nat) (f : Field), fs[j]? = some f → P.underlying f.type = some (.int .i64)) (h : DataW.trod enc P w base spare held fuel t cs = some x) :
    ∃ v l, cs = [v] ∧ Links w 0 w.heap.size v l := by
  obtain ⟨A, len, cap, hcs, hlc, hm, F, hr⟩ := open_rows ht he hone (by omega) (by omega) hint h
  refine ⟨_, (List.range len).map (fun i => ⟨F (4 * i), F (4 * i + 1), F (4 * i + 2), F (4 * i + 3)⟩), hcs, ?_⟩
  have hl : ((List.range len).map (fun i => (⟨F (4 * i), F (4 * i + 1), F (4 * i + 2), F (4 * i + 3)⟩ : Lk))).length = len := by simp
  unfold Links
  rw [hl]
  refine ⟨hm, A, cap, rfl, hlc, fun hn => ?_⟩
  obtain ⟨b, off, hA, hb, hc⟩ := hr hn
  refine ⟨b, off, hA, Nat.zero_le _, hb, fun i hi => ?_⟩
  rw [hfs] at hc
  rw [hc i hi]
  have hq : i / 4 < len := by omega
  have hg : lkAt ((List.range len).map (fun i => (⟨F (4 * i), F (4 * i + 1), F (4 * i + 2), F (4 * i + 3)⟩ : Lk))) (i / 4) = ⟨F (4 * (i / 4)), F (4 * (i / 4) + 1), F (4 * (i / 4) + 2), F (4 * (i / 4) + 3)⟩ := by
    unfold lkAt
    simp [List.getD, hq]
  unfold linkCell
  rw [hg]
  by_cases e0 : i % 4 = 0
  · rw [if_pos e0, show 4 * (i / 4) = i from by omega]
  · by_cases e1 : i % 4 = 1
    · rw [if_neg e0, if_pos e1, show 4 * (i / 4) + 1 = i from by omega]
    · by_cases e2 : i % 4 = 2
      · rw [if_neg e0, if_neg e1, if_pos e2, show 4 * (i / 4) + 2 = i from by omega]
      · rw [if_neg e0, if_neg e1, if_neg e2, show 4 * (i / 4) + 3 = i from by omega]
/-- a slice of slices of spans -/
theorem open_sets {t t' e : TypeId} {fs : Array Field} {fuel : Nat} {cs : List Value} {x : DataW H × List MemPlace} (ht0 : P.underlying t = some (.slice t')) (hC0 : P.cellsOf t' = 1) (ht : P.underlying t' = some (.slice e)) (he : P.underlying e = some (.struct fs))
    (hone : oneCellFields P fs = true) (hC : P.cellsOf e = 2) (hfs : fs.size = 2) (hint : ∀ (j : Nat) (f : Field), fs[j]? = some f → P.underlying f.type = some (.int .i64)) (h : DataW.trod enc P w base spare held fuel t cs = some x) :
    ∃ v l, cs = [v] ∧ Sets w 0 w.heap.size v l := by
  rcases open_slice ht0 h with ⟨h0, _⟩ | ⟨a, len, cap, m, n, D, Pl, hcs, hb, hl, hm, hmm, hx, hi⟩
  · exact ⟨_, [], h0, fun _ => undef, ⟨Nat.zero_le _, none, 0, rfl, Nat.le_refl _, fun hn => absurd hn (by simp)⟩, fun i hi => absurd hi (by simp)⟩
  · have hlm : len ≤ m := by rw [hmm]; split <;> omega
    have hone : ∀ i, i < len → ∃ y : Value × List Sp, w.cell? (a.add i) = some y.1 ∧ Spans w 0 w.heap.size y.1 y.2 := by
      intro i hil
      obtain ⟨cs', hc, ht'⟩ := hi i (by omega)
      obtain ⟨_, hcl, hat⟩ := World.cells?_some hc
      obtain ⟨v, l, rfl, hs⟩ := open_spans ht he hone hC hfs hint ht'
      refine ⟨(v, l), ?_, hs⟩
      have := hat 0 (by rw [hC0]; omega)
      rw [Go.Deep.add_add, hC0] at this
      simpa using this
    haveI : Inhabited (Value × List Sp) := ⟨(undef, [])⟩
    obtain ⟨F, hF⟩ := choose_lt hone
    have hlen : ((List.range len).map (fun i => (F i).2)).length = len := by simp
    refine ⟨_, (List.range len).map (fun i => (F i).2), hcs, fun i => (F i).1, ?_, fun i hil => ?_⟩
    · rw [hlen]
      refine ⟨by omega, some a, cap, rfl, hl, fun h0 => ?_⟩
      have hz0 := (hF 0 h0).1
      have ha0 : a.add 0 = a := by simp [Addr.add]
      rw [ha0] at hz0
      have hsp := spot_of_cell hz0
      have hlt := World.block_lt_of_cell? w a hz0
      have hae : a = ⟨a.block, a.off, none⟩ := by rw [← hsp]
      refine ⟨a.block, a.off, by rw [← hae], Nat.zero_le _, hlt, fun i hil => ?_⟩
      have := (hF i (by omega)).1
      rw [hae, Addr.add_lit] at this
      exact this
    · rw [hlen] at hil
      have hg : setAt ((List.range len).map (fun i => (F i).2)) i = (F i).2 := by
        unfold setAt
        simp [List.getD, hil]
      rw [hg]
      exact (hF i hil).2
/-- a slice of int64 -/
theorem open_ints64 {t e : TypeId} {fuel : Nat} {cs : List Value} {x : DataW H × List MemPlace} (ht : P.underlying t = some (.slice e)) (he : P.underlying e = some (.int .i64)) (hC : P.cellsOf e = 1) (h : DataW.trod enc P w base spare held fuel t cs = some x) :
    ∃ v l, cs = [v] ∧ Ints w 0 w.heap.size v l := by
  rcases open_slice ht h with ⟨h0, _⟩ | ⟨a, len, cap, m, n, D, Pl, hcs, hb, hl, hm, hmm, hx, hi⟩
  · exact ⟨_, [], h0, Nat.zero_le _, none, 0, rfl, Nat.le_refl _, fun hn => absurd hn (by simp)⟩
  · have hlm : len ≤ m := by rw [hmm]; split <;> omega
    have hone : ∀ i, i < len → ∃ z : Int, w.cell? (a.add i) = some (.int .i64 z) := by
      intro i hil
      obtain ⟨cs', hc, ht'⟩ := hi i (by omega)
      obtain ⟨_, hcl, hat⟩ := World.cells?_some hc
      obtain ⟨z, rfl, _, _⟩ := DataW.trod_int he ht'
      refine ⟨z, ?_⟩
      have := hat 0 (by rw [hC]; omega)
      rw [Go.Deep.add_add, hC] at this
      simpa using this
    obtain ⟨F, hF⟩ := choose_lt (p := fun i (z : Int) => w.cell? (a.add i) = some (.int .i64 z)) hone
    have hlen : ((List.range len).map F).length = len := by simp
    refine ⟨_, (List.range len).map F, hcs, ?_⟩
    unfold Ints
    rw [hlen]
    refine ⟨by omega, some a, cap, rfl, hl, fun h0 => ?_⟩
    have hz0 := hF 0 h0
    have ha0 : a.add 0 = a := by simp [Addr.add]
    rw [ha0] at hz0
    have hsp := spot_of_cell hz0
    have hlt := World.block_lt_of_cell? w a hz0
    have hae : a = ⟨a.block, a.off, none⟩ := by rw [← hsp]
    refine ⟨a.block, a.off, by rw [← hae], Nat.zero_le _, hlt, fun i hil => ?_⟩
    have := hF i (by omega)
    rw [hae, Addr.add_lit] at this
    rw [this]
    unfold intCell inAt
    simp [List.getD, show i < len by omega]
end
end Go.Proofs.YtbddkmlfjghllaaGreatDoor
