/- Contract: united: spans put in order by the library's sort and joined. -/
import Derived.Test.YtfmnkojjkjkdeaaDoorUs
import Derived.Deep.RegionHeld3
namespace Go.Proofs.YtfmnkojjkjkdeaaDoor
set_option linter.unusedVariables false
set_option linter.unusedSimpArgs false
open Go.RowKit Go.Sort
attribute [local go_sem] cell_onto
set_option maxHeartbeats 2000000 in
/-- the closure: it lays two boxes -/
theorem united_closure (x y : Sp) (W : World) : Calls Tryd.prog 88 #[.agg (encSp x).toArray, .agg (encSp y).toArray] W fun e w' => e = .returned (.int .i64 (cfSp x y)) ∧ ∃ q os', w' = grow (W.drewN q) os' := by
  have Hc := Lib.hid (fun W' => cmp_Compare x.fr y.fr W')
  have e0 : cfSp x y = (if x.fr < y.fr then -1 else if y.fr < x.fr then 1 else 0) := rfl
  have ex : (encSp x).toArray = #[.int .i64 x.fr, .int .i64 x.to] := rfl
  have ey : (encSp y).toArray = #[.int .i64 y.fr, .int .i64 y.to] := rfl
  rw [ex, ey, e0]
  generalize (if x.fr < y.fr then (-1 : Int) else if y.fr < x.fr then 1 else 0) = r at Hc ⊢
  clear ex ey e0
  go_enter Tryd.func88, Tryd.ntmps88
  go_wp2_with (go_at_call 85; refine Calls.mono (Hc.out _) ?_; rintro e w' ⟨rfl, rfl⟩)
  go_ret
  exact ⟨rfl, 0, _, by rw [alloc_eq_grow, alloc_eq_grow, grow_grow]; rfl⟩
theorem united_cmp (blk off size : Nat) (w : World) : CmpLays Tryd.prog 88 #[] encSp 2 cfSp blk off size w :=
  fun _ _ _ _ x y => united_closure x y _
theorem bits_Len0 (w : World) : Calls Tryd.prog 111 #[.int .u64 0] w fun e w' => (∃ l : Int, e = .returned (.int .i64 l)) ∧ w' = w := by
  have h := Any.bits_Len (SlLaysF0.n15.bits (P := Tryd.prog) (ρ := Tryd.sortSp_ren) { Tryd.sortSp with }) 0 w (by omega) (by omega)
  exact h.mono fun _ _ ⟨he, hw⟩ => ⟨⟨_, he⟩, hw⟩
set_option maxHeartbeats 4000000 in
theorem ins_nil (f : Value) (w : World) : Calls Tryd.prog 132 #[.slice none 0 0, .int .i64 0, .int .i64 0, f] w (fun e w' => e = .returned (.tuple #[]) ∧ w' = w) := by
  go_enter Tryd.func132, Tryd.ntmps132
  go_wp2_with fail
  go_loopg [8] 0 (fun q u8 wr => u8 = .int .i64 1 ∧ wr = w)
  case atStart => exact ⟨rfl, rfl⟩
  case round =>
    obtain ⟨rfl, rfl⟩ := hrel
    go_wp2_with fail
    go_end0
    exact ⟨rfl, rfl⟩
set_option maxRecDepth 100000 in
set_option maxHeartbeats 4000000 in
theorem pdq_nil (l : Int) (f : Value) (w : World) : Calls Tryd.prog 110 #[.slice none 0 0, .int .i64 0, .int .i64 0, .int .i64 l, f] w (fun e w' => e = .returned (.tuple #[]) ∧ w' = w) := by
  go_enter Tryd.func110, Tryd.ntmps110
  go_wp2_with fail
  go_loopg [1, 2] 0 (fun q u1 u2 wr => u1 = .int .i64 0 ∧ u2 = .int .i64 0 ∧ wr = w)
  case atStart => exact ⟨rfl, rfl, rfl⟩
  case round =>
    obtain ⟨rfl, rfl, rfl⟩ := hrel
    go_wp2_with (go_at_call 132; refine Calls.mono (ins_nil _ _) ?_; rintro e w1 ⟨rfl, rfl⟩)
    (try simp only [Exit.inBlock, Exit.then])
    refine bodyPost_ret (results_none rfl _ _ _) rfl ?_
    exact ⟨rfl, rfl⟩
set_option maxHeartbeats 4000000 in
/-- the sort at no row -/
theorem sort_nil (f : Value) (w : World) : Calls Tryd.prog 87 #[.slice none 0 0, f] w (fun e w' => e = .returned (.tuple #[]) ∧ w' = w) := by
  go_enter Tryd.func87, Tryd.ntmps87
  go_wp2_with (first
    | (go_at_call 111; refine Calls.mono (bits_Len0 _) ?_; rintro e w1 ⟨⟨l, rfl⟩, rfl⟩)
    | (go_at_call 110; refine Calls.mono (pdq_nil _ _ _) ?_; rintro e w2 ⟨rfl, rfl⟩))
  go_end0
  exact ⟨rfl, rfl⟩
/-- the sort at a row of spans -/
theorem sort_spans (w : World) (v : Value) (base : Nat) (l : List Sp) (h : RowSp w base 74 v l) (hb : base ≤ w.heap.size) (hl : l.length ≤ 1048576) :
    Calls Tryd.prog 87 #[v, .func (.func 88) #[] #[]] w (fun e w' => e = .returned (.tuple #[]) ∧ ∃ l', l'.Perm l ∧ SortedF l' ∧ RowSp w' base 74 v l' ∧ ∀ w0, Ext w0 w → w0.heap.size ≤ base → Ext w0 w') := by
  rcases h.2 with ⟨rfl, h0⟩ | ⟨g, cap, cur, rfl, hg, hh, _⟩
  · obtain rfl : l = [] := List.length_eq_zero_iff.1 h0
    refine Calls.mono (sort_nil _ _) ?_
    rintro e w' ⟨rfl, rfl⟩
    exact ⟨rfl, [], List.Perm.refl _, fun i k h1 h2 => absurd h2 (by simp), h, fun _ hx _ => hx⟩
  · have hgs : g < w.heap.size := (Array.getElem?_eq_some_iff.1 hh).1
    have eg : ∀ args w, (callFunc 88 args).run Tryd.prog w = .ok (.enter 88 args) w := enters_of Tryd.func88 (by kernel_rfl) rfl
    have hcon := AnyQ.slices_SortFunc Tryd.sortSp 2 Tryd.isAgg74 Tryd.sizeOf74 encSp (fun _ => rfl) encSp_one cfSp swoSp 88 #[] g 0 cap l.toArray w eg (united_cmp g 0 _ w) (holdsSp h) hgs (by simp; omega)
    refine Calls.mono hcon ?_
    rintro e w' ⟨rfl, d, n, os, hp, hs, rfl⟩
    have hpl := PermIn.list hp
    have hd : d.size = l.length := by have := hp.1; simpa using this
    obtain ⟨h1, h2⟩ := sortRow (n := n) (os := os) (d := d) h hd
    refine ⟨rfl, d.toList, hpl, SortedIn.f (by have := hs; rw [show l.toArray.size = d.size by simp [hd]] at this; exact this), ?_, fun w0 hx hb0 => h2 w0 hx (by omega)⟩
    have e4 : d.toList.length = l.length := by rw [Array.length_toList]; exact hd
    rw [← e4] at h1 ⊢
    exact h1
end Go.Proofs.YtfmnkojjkjkdeaaDoor
