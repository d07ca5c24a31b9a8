/- What a law's row asks behind the walk: true, and every argument as it was: shown once for all laws. -/
import Derived.Test.YtfmnkojjkjkdeaaDoorRows
import Derived.Test.YtfmnkojjkjkdeaaDoorR1Open
import Derived.OpenShut
namespace Go.Proofs.YtfmnkojjkjkdeaaDoor
set_option linter.unusedVariables false
set_option linter.unusedSimpArgs false
open Go.RowKit Go.ChangeShapes Go.WideShapes Go.Deep Go.Joins

theorem Tryd.own : ownKnob Tryd.prog.godebug = none := by kernel_rfl
theorem Tryd.laidOut : laidOutB Tryd.prog = true := by kernel_rfl
theorem Tryd.oneInt : ∀ (t : TypeId), t = 2 → Tryd.prog.underlying t = some (.int .i64) := by
  intro t e
  subst e
  exact Tryd.underlying2

theorem fieldOf2 {a b f : Field} {j : Nat} {t : TypeId} (h : #[a, b][j]? = some f) (ha : a.type = t) (hb : b.type = t) : f.type = t := by
  match j, h with
  | 0, h => simp at h; subst h; exact ha
  | 1, h => simp at h; subst h; exact hb
theorem fieldOf4 {a b c d f : Field} {j : Nat} {t : TypeId} (h : #[a, b, c, d][j]? = some f) (ha : a.type = t) (hb : b.type = t) (hc : c.type = t) (hd : d.type = t) : f.type = t := by
  match j, h with
  | 0, h => simp at h; subst h; exact ha
  | 1, h => simp at h; subst h; exact hb
  | 2, h => simp at h; subst h; exact hc
  | 3, h => simp at h; subst h; exact hd
section
variable {H : Type} {enc : TypeId × Value → H}
theorem trodAll_below {W W' : World} (hb : Below W.heap.size W W') : ∀ (ts : List TypeId) (vs : List Value) (ds : List (DataW H)) (ps : List MemPlace),
    (∀ t ∈ ts, Tryd.prog.readableRec t = true ∧ t < Tryd.prog.types.size) → DataW.TrodAll enc Tryd.prog W 0 (fun _ => true) true ts vs ds ps → (∀ x ∈ ps, x.block < W.heap.size) →
    DataW.TrodAll enc Tryd.prog W' 0 (fun b => decide (b < W.heap.size)) true ts vs ds ps
  | [], vs, ds, ps, _, h, _ => by
    obtain ⟨rfl, rfl, rfl⟩ := trodAll_nil h
    exact trodAll_mk0
  | t :: ts, vs, ds, ps, ht, h, hlt => by
    obtain ⟨v, vs', d, ds', p, q, rfl, rfl, rfl, h1, h2⟩ := trodAll_cons h
    have h0 := ht t (List.mem_cons_self ..)
    exact trodAll_cons_mk (Below.trod Tryd.laidOut h0.1 h0.2 h1 hb (fun x hx => hlt x (by simp [hx])))
      (trodAll_below hb ts vs' ds' q (fun t' ht' => ht t' (List.mem_cons_of_mem _ ht')) h2 (fun x hx => hlt x (by simp [hx])))

/-- the law's post: it returned true, in a world that has grown -/
theorem law_post {f : Func} {s : ChangeSpec} {W W' : World} {args : Array Value} {ds gs : List (DataW H)} {before : List MemPlace}
    (hv : s.vars = []) (hr : f.resultTypes = #[4]) (hp : ∀ t ∈ f.params.toList, Tryd.prog.readableRec t = true ∧ t < Tryd.prog.types.size)
    (hs : s.fn H (ds ++ gs) = { results := [.lit (.bool true)], args := ds })
    (hW : DataW.Whole enc Tryd.prog f.params.toList s.vars false W args.toList ds gs before) (hx : Ext W W') :
    s.post enc Tryd.prog f false true false false W args (.bool true) W' := by
  have hlt : ∀ p ∈ before, p.block < W.heap.size := fun p hp => hW.lt p hp
  obtain ⟨p, q, hA, hV, hpq, hfz, hnd⟩ := id hW
  rw [hv] at hV
  obtain ⟨rfl, rfl⟩ := trodVars_none hV
  rw [List.append_nil] at hpq
  subst hpq
  refine ⟨ds, [], before, [], before, [], hW, ?_, ?_, ?_, Below.frame hx _, fun h => by cases h⟩
  · rw [hs, hr]
    exact trodAll_mk1 (shut_bool Tryd.underlying4 true)
  · rw [hs]
    exact trodAll_below hx _ _ _ _ hp hA hlt
  · rw [hs, hv]
    rfl
end

set_option maxRecDepth 100000 in
/-- laws.Network, by value -/
theorem open_network {H : Type} {enc : TypeId × Value → H} {w : World} {base b0 : Nat} {spare : Nat → Bool} {held : Bool} {r : Reach} {v : Value} {d : DataW H} {p : List MemPlace}
    (hv : Value.okWide Tryd.prog w r b0 25 v) (h : DataW.Trod enc Tryd.prog w base spare held 25 v d p) :
    ∃ (s k : Value) (n : Net), v = .agg #[s, k] ∧ Sets w 0 w.heap.size s n.sets ∧ Links w 0 w.heap.size k n.links := by
  obtain ⟨v0, v1, y0, y1, m, rfl, _, _, h0, h1⟩ := open_agg2 Tryd.underlying25 (by kernel_rfl) (by kernel_rfl) hv h
  obtain ⟨s, l, hs, hS⟩ := open_sets (t := 22) (t' := 86) (e := 110) Tryd.underlying22 (by kernel_rfl) Tryd.underlying86 Tryd.underlying110 (by kernel_rfl) (by kernel_rfl) (by simp)
    (fun j f hj => Tryd.oneInt _ (fieldOf2 hj rfl rfl)) h0
  obtain ⟨k, l', hk, hK⟩ := open_links (t := 23) (e := 92) Tryd.underlying23 Tryd.underlying92 (by kernel_rfl) (by kernel_rfl) (by simp)
    (fun j f hj => Tryd.oneInt _ (fieldOf4 hj rfl rfl rfl rfl)) h1
  simp only [List.cons.injEq, and_true] at hs hk
  subst hs hk
  exact ⟨v0, v1, ⟨l, l'⟩, rfl, hS, hK⟩
end Go.Proofs.YtfmnkojjkjkdeaaDoor
