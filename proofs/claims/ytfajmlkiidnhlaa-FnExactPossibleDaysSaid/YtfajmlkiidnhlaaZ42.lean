/- Texts merged: a claim holds at most sixty files. -/
import Derived.Test.YtfajmlkiidnhlaaZ01
import Derived.ProofKit
import Derived.Deep.Slices
import Derived.Deep.Fields
import Derived.Lib.SmallJoins
import Derived.Test.YtfajmlkiidnhlaaRows
import Derived.OpenShut
/- How the arguments of the laws read: networks, numbers, bytes: from the reading to rows of cells. -/
namespace Go.Proofs.Ytfajmlkiidnhlaa
set_option linter.unusedVariables false
set_option linter.unusedSimpArgs false
open Go.RowKit Go.ChangeShapes Go.WideShapes Go.Deep Go.Joins

theorem spot_of_cell {w : World} {a : Addr} {v : Value} (h : w.cell? a = some v) : a.spot = none := by
  unfold World.cell? at h
  split at h
  · split at h
    · cases h
    · rename_i hs
      simpa using hs
  · cases h
theorem add_spot {a : Addr} (n : Nat) : (a.add n).spot = none → a.spot = none ∨ n ≠ 0 := by
  intro h
  unfold Addr.add at h
  by_cases e : n = 0
  · left; simpa [e] using h
  · exact .inr e

section
variable {H : Type} {enc : TypeId × Value → H} {P : Program} {w : World} {base : Nat} {spare : Nat → Bool} {held : Bool}

/-- a slice of structs whose fields are all int64 -/
theorem open_rows {t e : TypeId} {fs : Array Field} {fuel : Nat} {cs : List Value} {x : DataW H × List MemPlace} (ht : P.underlying t = some (.slice e)) (he : P.underlying e = some (.struct fs))
    (hone : oneCellFields P fs = true) (hC : P.cellsOf e = fs.size) (hk : 0 < fs.size) (hint : ∀ (j : Nat) (f : Field), fs[j]? = some f → P.underlying f.type = some (.int .i64)) (h : DataW.trod enc P w base spare held fuel t cs = some x) :
    ∃ A len cap, cs = [.slice A len cap] ∧ len ≤ cap ∧ len ≤ maxLen ∧ ∃ F : Nat → Int,
      (0 < len → ∃ b off, A = some ⟨b, off, none⟩ ∧ b < w.heap.size ∧ ∀ i, i < len * fs.size → w.cell? ⟨b, off + i, none⟩ = some (.int .i64 (F i))) := by
  rcases open_slice ht h with ⟨h0, _⟩ | ⟨a, len, cap, m, n, D, Pl, hcs, hb, hl, hm, hmm, hx, hi⟩
  · exact ⟨none, 0, 0, h0, Nat.le_refl _, Nat.zero_le _, fun _ => 0, fun hn => absurd hn (by omega)⟩
  · have hlm : len ≤ m := by rw [hmm]; split <;> omega
    have hcell : ∀ i, i < len * fs.size → ∃ z : Int, w.cell? (a.add i) = some (.int .i64 z) := by
      intro i hil
      have hq : i / fs.size < len := by
        rw [Nat.div_lt_iff_lt_mul hk]; exact hil
      have hr : i % fs.size < fs.size := Nat.mod_lt _ hk
      obtain ⟨cs', hc, ht'⟩ := hi (i / fs.size) (by omega)
      obtain ⟨_, hcl, hat⟩ := World.cells?_some hc
      obtain ⟨ys, n', _, _, hlen, hyl, hf⟩ := DataW.trod_struct he ht'
      rw [hC] at hat hcl hc
      obtain ⟨f, hfj⟩ : ∃ f, fs[i % fs.size]? = some f := ⟨fs[i % fs.size], Array.getElem?_eq_getElem hr⟩
      obtain ⟨ho, hk1⟩ := hone_of hone _ f hfj
      have h1 := hf _ f hfj
      rw [ho, hk1] at h1
      have hcj : i % fs.size < cs'.length := by omega
      have hd : (cs'.drop (i % fs.size)).take 1 = [cs'[i % fs.size]] := by
        rw [List.drop_eq_getElem_cons hcj]
        rfl
      rw [hd] at h1
      have hyj : ys[i % fs.size]? = some (ys[i % fs.size]'(by omega)) := List.getElem?_eq_getElem (by omega)
      obtain ⟨z, hz, _, _⟩ := DataW.trod_int (hint _ f hfj) (h1.trans hyj)
      refine ⟨z, ?_⟩
      have hc1 := hat (i % fs.size) hr
      rw [Go.Deep.add_add, Nat.div_add_mod' i fs.size, List.getElem?_eq_getElem hcj] at hc1
      rw [hc1]
      simpa using hz
    refine ⟨some a, len, cap, hcs, hl, by omega, ?_⟩
    by_cases h0 : 0 < len
    · have hpos : 0 < len * fs.size := Nat.mul_pos h0 hk
      obtain ⟨z0, hz0⟩ := hcell 0 hpos
      have ha0 : a.add 0 = a := by simp [Addr.add]
      rw [ha0] at hz0
      have hsp := spot_of_cell hz0
      have hlt := World.block_lt_of_cell? w a hz0
      have hae : a = ⟨a.block, a.off, none⟩ := by rw [← hsp]
      obtain ⟨F, hF⟩ := choose_lt (p := fun i (z : Int) => w.cell? (a.add i) = some (.int .i64 z)) hcell
      refine ⟨F, fun _ => ⟨a.block, a.off, by rw [← hae], hlt, fun i hil => ?_⟩⟩
      have := hF i hil
      rw [hae, Addr.add_lit] at this
      exact this
    · exact ⟨fun _ => 0, fun hn => absurd hn h0⟩

theorem open_spans {t e : TypeId} {fs : Array Field} {fuel : Nat} {cs : List Value} {x : DataW H × List MemPlace} (ht : P.underlying t = some (.slice e)) (he : P.underlying e = some (.struct fs))
    (hone : oneCellFields P fs = true) (hC : P.cellsOf e = 2) (hfs : fs.size = 2) (hint : ∀ (j : Nat) (f : Field), fs[j]? = some f → P.underlying f.type = some (.int .i64)) (h : DataW.trod enc P w base spare held fuel t cs = some x) :
    ∃ v l, cs = [v] ∧ Spans w 0 w.heap.size v l := by
  obtain ⟨A, len, cap, hcs, hlc, hm, F, hr⟩ := open_rows ht he hone (by omega) (by omega) hint h
  refine ⟨_, (List.range len).map (fun i => ⟨F (2 * i), F (2 * i + 1)⟩), hcs, ?_⟩
  have hl : ((List.range len).map (fun i => (⟨F (2 * i), F (2 * i + 1)⟩ : Sp))).length = len := by simp
  unfold Spans
  rw [hl]
  refine ⟨hm, A, cap, rfl, hlc, fun hn => ?_⟩
  obtain ⟨b, off, hA, hb, hc⟩ := hr hn
  refine ⟨b, off, hA, Nat.zero_le _, hb, fun i hi => ?_⟩
  rw [hfs] at hc
  rw [hc i hi]
  have hq : i / 2 < len := by omega
  have hg : spAt ((List.range len).map (fun i => (⟨F (2 * i), F (2 * i + 1)⟩ : Sp))) (i / 2) = ⟨F (2 * (i / 2)), F (2 * (i / 2) + 1)⟩ := by
    unfold spAt
    simp [List.getD, hq]
  unfold spanCell
  rw [hg]
  by_cases e : i % 2 = 0
  · rw [if_pos e, show 2 * (i / 2) = i from by omega]
  · rw [if_neg e, show 2 * (i / 2) + 1 = i from by omega]
theorem open_links {t e : TypeId} {fs : Array Field} {fuel : Nat} {cs : List Value} {x : DataW H × List MemPlace} (ht : P.underlying t = some (.slice e)) (he : P.underlying e = some (.struct fs))
    (hone : oneCellFields P fs = true) (hC : P.cellsOf e = 4) (hfs : fs.size = 4) (hint : ∀ (j : Nat) (f : Field), fs[j]? = some f → P.underlying f.type = some (.int .i64)) (h : DataW.trod enc P w base spare held fuel t cs = some x) :
    ∃ v l, cs = [v] ∧ Links w 0 w.heap.size v l := by
  obtain ⟨A, len, cap, hcs, hlc, hm, F, hr⟩ := open_rows ht he hone (by omega) (by omega) hint h
  refine ⟨_, (List.range len).map (fun i => ⟨F (4 * i), F (4 * i + 1), F (4 * i + 2), F (4 * i + 3)⟩), hcs, ?_⟩
  have hl : ((List.range len).map (fun i => (⟨F (4 * i), F (4 * i + 1), F (4 * i + 2), F (4 * i + 3)⟩ : Lk))).length = len := by simp
  unfold Links
  rw [hl]
  refine ⟨hm, A, cap, rfl, hlc, fun hn => ?_⟩
  obtain ⟨b, off, hA, hb, hc⟩ := hr hn
  refine ⟨b, off, hA, Nat.zero_le _, hb, fun i hi => ?_⟩
  rw [hfs] at hc
  rw [hc i hi]
  have hq : i / 4 < len := by omega
  have hg : lkAt ((List.range len).map (fun i => (⟨F (4 * i), F (4 * i + 1), F (4 * i + 2), F (4 * i + 3)⟩ : Lk))) (i / 4) = ⟨F (4 * (i / 4)), F (4 * (i / 4) + 1), F (4 * (i / 4) + 2), F (4 * (i / 4) + 3)⟩ := by
    unfold lkAt
    simp [List.getD, hq]
  unfold linkCell
  rw [hg]
  by_cases e0 : i % 4 = 0
  · rw [if_pos e0, show 4 * (i / 4) = i from by omega]
  · by_cases e1 : i % 4 = 1
    · rw [if_neg e0, if_pos e1, show 4 * (i / 4) + 1 = i from by omega]
    · by_cases e2 : i % 4 = 2
      · rw [if_neg e0, if_neg e1, if_pos e2, show 4 * (i / 4) + 2 = i from by omega]
      · rw [if_neg e0, if_neg e1, if_neg e2, show 4 * (i / 4) + 3 = i from by omega]
/-- a slice of slices of spans -/
theorem open_sets {t t' e : TypeId} {fs : Array Field} {fuel : Nat} {cs : List Value} {x : DataW H × List MemPlace} (ht0 : P.underlying t = some (.slice t')) (hC0 : P.cellsOf t' = 1) (ht : P.underlying t' = some (.slice e)) (he : P.underlying e = some (.struct fs))
    (hone : oneCellFields P fs = true) (hC : P.cellsOf e = 2) (hfs : fs.size = 2) (hint : ∀ (j : Nat) (f : Field), fs[j]? = some f → P.underlying f.type = some (.int .i64)) (h : DataW.trod enc P w base spare held fuel t cs = some x) :
    ∃ v l, cs = [v] ∧ Sets w 0 w.heap.size v l := by
  rcases open_slice ht0 h with ⟨h0, _⟩ | ⟨a, len, cap, m, n, D, Pl, hcs, hb, hl, hm, hmm, hx, hi⟩
  · exact ⟨_, [], h0, fun _ => undef, ⟨Nat.zero_le _, none, 0, rfl, Nat.le_refl _, fun hn => absurd hn (by simp)⟩, fun i hi => absurd hi (by simp)⟩
  · have hlm : len ≤ m := by rw [hmm]; split <;> omega
    have hone : ∀ i, i < len → ∃ y : Value × List Sp, w.cell? (a.add i) = some y.1 ∧ Spans w 0 w.heap.size y.1 y.2 := by
      intro i hil
      obtain ⟨cs', hc, ht'⟩ := hi i (by omega)
      obtain ⟨_, hcl, hat⟩ := World.cells?_some hc
      obtain ⟨v, l, rfl, hs⟩ := open_spans ht he hone hC hfs hint ht'
      refine ⟨(v, l), ?_, hs⟩
      have := hat 0 (by rw [hC0]; omega)
      rw [Go.Deep.add_add, hC0] at this
      simpa using this
    haveI : Inhabited (Value × List Sp) := ⟨(undef, [])⟩
    obtain ⟨F, hF⟩ := choose_lt hone
    have hlen : ((List.range len).map (fun i => (F i).2)).length = len := by simp
    refine ⟨_, (List.range len).map (fun i => (F i).2), hcs, fun i => (F i).1, ?_, fun i hil => ?_⟩
    · rw [hlen]
      refine ⟨by omega, some a, cap, rfl, hl, fun h0 => ?_⟩
      have hz0 := (hF 0 h0).1
      have ha0 : a.add 0 = a := by simp [Addr.add]
      rw [ha0] at hz0
      have hsp := spot_of_cell hz0
      have hlt := World.block_lt_of_cell? w a hz0
      have hae : a = ⟨a.block, a.off, none⟩ := by rw [← hsp]
      refine ⟨a.block, a.off, by rw [← hae], Nat.zero_le _, hlt, fun i hil => ?_⟩
      have := (hF i (by omega)).1
      rw [hae, Addr.add_lit] at this
      exact this
    · rw [hlen] at hil
      have hg : setAt ((List.range len).map (fun i => (F i).2)) i = (F i).2 := by
        unfold setAt
        simp [List.getD, hil]
      rw [hg]
      exact (hF i hil).2
/-- a slice of int64 -/
theorem open_ints64 {t e : TypeId} {fuel : Nat} {cs : List Value} {x : DataW H × List MemPlace} (ht : P.underlying t = some (.slice e)) (he : P.underlying e = some (.int .i64)) (hC : P.cellsOf e = 1) (h : DataW.trod enc P w base spare held fuel t cs = some x) :
    ∃ v l, cs = [v] ∧ Ints w 0 w.heap.size v l := by
  rcases open_slice ht h with ⟨h0, _⟩ | ⟨a, len, cap, m, n, D, Pl, hcs, hb, hl, hm, hmm, hx, hi⟩
  · exact ⟨_, [], h0, Nat.zero_le _, none, 0, rfl, Nat.le_refl _, fun hn => absurd hn (by simp)⟩
  · have hlm : len ≤ m := by rw [hmm]; split <;> omega
    have hone : ∀ i, i < len → ∃ z : Int, w.cell? (a.add i) = some (.int .i64 z) := by
      intro i hil
      obtain ⟨cs', hc, ht'⟩ := hi i (by omega)
      obtain ⟨_, hcl, hat⟩ := World.cells?_some hc
      obtain ⟨z, rfl, _, _⟩ := DataW.trod_int he ht'
      refine ⟨z, ?_⟩
      have := hat 0 (by rw [hC]; omega)
      rw [Go.Deep.add_add, hC] at this
      simpa using this
    obtain ⟨F, hF⟩ := choose_lt (p := fun i (z : Int) => w.cell? (a.add i) = some (.int .i64 z)) hone
    have hlen : ((List.range len).map F).length = len := by simp
    refine ⟨_, (List.range len).map F, hcs, ?_⟩
    unfold Ints
    rw [hlen]
    refine ⟨by omega, some a, cap, rfl, hl, fun h0 => ?_⟩
    have hz0 := hF 0 h0
    have ha0 : a.add 0 = a := by simp [Addr.add]
    rw [ha0] at hz0
    have hsp := spot_of_cell hz0
    have hlt := World.block_lt_of_cell? w a hz0
    have hae : a = ⟨a.block, a.off, none⟩ := by rw [← hsp]
    refine ⟨a.block, a.off, by rw [← hae], Nat.zero_le _, hlt, fun i hil => ?_⟩
    have := hF i (by omega)
    rw [hae, Addr.add_lit] at this
    rw [this]
    unfold intCell inAt
    simp [List.getD, show i < len by omega]
end
end Go.Proofs.Ytfajmlkiidnhlaa

/- What a law's row asks behind the walk: true, and every argument as it was: shown once for all laws. -/
namespace Go.Proofs.Ytfajmlkiidnhlaa
set_option linter.unusedVariables false
set_option linter.unusedSimpArgs false
open Go.RowKit Go.ChangeShapes Go.WideShapes Go.Deep Go.Joins

theorem Try.own : ownKnob Try.prog.godebug = none := by kernel_rfl
theorem Try.laidOut : laidOutB Try.prog = true := by kernel_rfl
theorem Try.oneInt : ∀ (t : TypeId), t = 2 → Try.prog.underlying t = some (.int .i64) := by
  intro t e
  subst e
  exact Try.underlying2

theorem fieldOf2 {a b f : Field} {j : Nat} {t : TypeId} (h : #[a, b][j]? = some f) (ha : a.type = t) (hb : b.type = t) : f.type = t := by
  match j, h with
  | 0, h => simp at h; subst h; exact ha
  | 1, h => simp at h; subst h; exact hb
theorem fieldOf4 {a b c d f : Field} {j : Nat} {t : TypeId} (h : #[a, b, c, d][j]? = some f) (ha : a.type = t) (hb : b.type = t) (hc : c.type = t) (hd : d.type = t) : f.type = t := by
  match j, h with
  | 0, h => simp at h; subst h; exact ha
  | 1, h => simp at h; subst h; exact hb
  | 2, h => simp at h; subst h; exact hc
  | 3, h => simp at h; subst h; exact hd
section
variable {H : Type} {enc : TypeId × Value → H}
theorem trodAll_below {W W' : World} (hb : Below W.heap.size W W') : ∀ (ts : List TypeId) (vs : List Value) (ds : List (DataW H)) (ps : List MemPlace),
    (∀ t ∈ ts, Try.prog.readableRec t = true ∧ t < Try.prog.types.size) → DataW.TrodAll enc Try.prog W 0 (fun _ => true) true ts vs ds ps → (∀ x ∈ ps, x.block < W.heap.size) →
    DataW.TrodAll enc Try.prog W' 0 (fun b => decide (b < W.heap.size)) true ts vs ds ps
  | [], vs, ds, ps, _, h, _ => by
    obtain ⟨rfl, rfl, rfl⟩ := trodAll_nil h
    exact trodAll_mk0
  | t :: ts, vs, ds, ps, ht, h, hlt => by
    obtain ⟨v, vs', d, ds', p, q, rfl, rfl, rfl, h1, h2⟩ := trodAll_cons h
    have h0 := ht t (List.mem_cons_self ..)
    exact trodAll_cons_mk (Below.trod Try.laidOut h0.1 h0.2 h1 hb (fun x hx => hlt x (by simp [hx])))
      (trodAll_below hb ts vs' ds' q (fun t' ht' => ht t' (List.mem_cons_of_mem _ ht')) h2 (fun x hx => hlt x (by simp [hx])))

/-- the law's post: it returned true, in a world that has grown -/
theorem law_post {f : Func} {s : ChangeSpec} {W W' : World} {args : Array Value} {ds gs : List (DataW H)} {before : List MemPlace}
    (hv : s.vars = []) (hr : f.resultTypes = #[4]) (hp : ∀ t ∈ f.params.toList, Try.prog.readableRec t = true ∧ t < Try.prog.types.size)
    (hs : s.fn H (ds ++ gs) = { results := [.lit (.bool true)], args := ds })
    (hW : DataW.Whole enc Try.prog f.params.toList s.vars false W args.toList ds gs before) (hx : Ext W W') :
    s.post enc Try.prog f false true false false W args (.bool true) W' := by
  have hlt : ∀ p ∈ before, p.block < W.heap.size := fun p hp => hW.lt p hp
  obtain ⟨p, q, hA, hV, hpq, hfz, hnd⟩ := id hW
  rw [hv] at hV
  obtain ⟨rfl, rfl⟩ := trodVars_none hV
  rw [List.append_nil] at hpq
  subst hpq
  refine ⟨ds, [], before, [], before, [], hW, ?_, ?_, ?_, Below.frame hx _, fun h => by cases h⟩
  · rw [hs, hr]
    exact trodAll_mk1 (shut_bool Try.underlying4 true)
  · rw [hs]
    exact trodAll_below hx _ _ _ _ hp hA hlt
  · rw [hs, hv]
    rfl
end

set_option maxRecDepth 100000 in
/-- laws.Network, by value -/
theorem open_network {H : Type} {enc : TypeId × Value → H} {w : World} {base b0 : Nat} {spare : Nat → Bool} {held : Bool} {r : Reach} {v : Value} {d : DataW H} {p : List MemPlace}
    (hv : Value.okWide Try.prog w r b0 76 v) (h : DataW.Trod enc Try.prog w base spare held 76 v d p) :
    ∃ (s k : Value) (n : Net), v = .agg #[s, k] ∧ Sets w 0 w.heap.size s n.sets ∧ Links w 0 w.heap.size k n.links := by
  obtain ⟨v0, v1, y0, y1, m, rfl, _, _, h0, h1⟩ := open_agg2 Try.underlying76 (by kernel_rfl) (by kernel_rfl) hv h
  obtain ⟨s, l, hs, hS⟩ := open_sets (t := 73) (t' := 166) (e := 181) Try.underlying73 (by kernel_rfl) Try.underlying166 Try.underlying181 (by kernel_rfl) (by kernel_rfl) (by simp)
    (fun j f hj => Try.oneInt _ (fieldOf2 hj rfl rfl)) h0
  obtain ⟨k, l', hk, hK⟩ := open_links (t := 74) (e := 169) Try.underlying74 Try.underlying169 (by kernel_rfl) (by kernel_rfl) (by simp)
    (fun j f hj => Try.oneInt _ (fieldOf4 hj rfl rfl rfl rfl)) h1
  simp only [List.cons.injEq, and_true] at hs hk
  subst hs hk
  exact ⟨v0, v1, ⟨l, l'⟩, rfl, hS, hK⟩
set_option maxRecDepth 100000 in
/-- []int64 -/
theorem open_ints_arg {H : Type} {enc : TypeId × Value → H} {w : World} {base b0 : Nat} {spare : Nat → Bool} {held : Bool} {r : Reach} {v : Value} {d : DataW H} {p : List MemPlace}
    (hv : Value.okWide Try.prog w r b0 28 v) (h : DataW.Trod enc Try.prog w base spare held 28 v d p) : ∃ l, Ints w 0 w.heap.size v l := by
  obtain ⟨A, n, c, rfl⟩ := okWide_slice Try.underlying28 hv
  obtain ⟨fuel, hf⟩ := h
  obtain ⟨v, l, e, hl⟩ := open_ints64 (t := 28) (e := 2) Try.underlying28 Try.underlying2 (by kernel_rfl) hf
  simp [Value.cells] at e
  subst e
  exact ⟨l, hl⟩
end Go.Proofs.Ytfajmlkiidnhlaa
