/- Contracts: math/bits.Mul at small numbers; slices.Repeat of one number. -/
import Derived.Test.YtmmokjnljaifcaaGreatDoorE1Q
import Derived.Laws.CopyOwn
import Derived.Deep.RegionLaw
import Derived.Deep.RegionHeld3
namespace Go.Proofs.YtmmokjnljaifcaaGreatDoor
set_option linter.unusedVariables false
set_option linter.unusedSimpArgs false
open Go.RowKit
attribute [local go_sem] cell_onto

set_option maxRecDepth 100000 in
set_option maxHeartbeats 2000000 in
theorem bits_Mul64_one (n : Nat) (hn : n ≤ 12) (w : World) : Calls Tryz.prog 381 #[.int .u64 1, .int .u64 n] w (RetS (.tuple #[.int .u64 0, .int .u64 n]) w) := by
  match n, hn with
  | 0, _ => (go_enter Tryz.func381, Tryz.ntmps381; go_wp2_with fail; go_ret2; exact ⟨rfl, rfl⟩)
  | 1, _ => (go_enter Tryz.func381, Tryz.ntmps381; go_wp2_with fail; go_ret2; exact ⟨rfl, rfl⟩)
  | 2, _ => (go_enter Tryz.func381, Tryz.ntmps381; go_wp2_with fail; go_ret2; exact ⟨rfl, rfl⟩)
  | 3, _ => (go_enter Tryz.func381, Tryz.ntmps381; go_wp2_with fail; go_ret2; exact ⟨rfl, rfl⟩)
  | 4, _ => (go_enter Tryz.func381, Tryz.ntmps381; go_wp2_with fail; go_ret2; exact ⟨rfl, rfl⟩)
  | 5, _ => (go_enter Tryz.func381, Tryz.ntmps381; go_wp2_with fail; go_ret2; exact ⟨rfl, rfl⟩)
  | 6, _ => (go_enter Tryz.func381, Tryz.ntmps381; go_wp2_with fail; go_ret2; exact ⟨rfl, rfl⟩)
  | 7, _ => (go_enter Tryz.func381, Tryz.ntmps381; go_wp2_with fail; go_ret2; exact ⟨rfl, rfl⟩)
  | 8, _ => (go_enter Tryz.func381, Tryz.ntmps381; go_wp2_with fail; go_ret2; exact ⟨rfl, rfl⟩)
  | 9, _ => (go_enter Tryz.func381, Tryz.ntmps381; go_wp2_with fail; go_ret2; exact ⟨rfl, rfl⟩)
  | 10, _ => (go_enter Tryz.func381, Tryz.ntmps381; go_wp2_with fail; go_ret2; exact ⟨rfl, rfl⟩)
  | 11, _ => (go_enter Tryz.func381, Tryz.ntmps381; go_wp2_with fail; go_ret2; exact ⟨rfl, rfl⟩)
  | 12, _ => (go_enter Tryz.func381, Tryz.ntmps381; go_wp2_with fail; go_ret2; exact ⟨rfl, rfl⟩)
theorem bits_Mul_one (n : Nat) (hn : n ≤ 12) (w : World) : Calls Tryz.prog 349 #[.int .u64 1, .int .u64 n] w (RetS (.tuple #[.int .u64 0, .int .u64 n]) w) := by
  go_enter Tryz.func349, Tryz.ntmps349
  go_wp2_with fail
  refine Calls.mono (bits_Mul64_one n hn w) ?_
  rintro e w1 ⟨rfl, rfl⟩
  go_wp2_with fail
  go_ret2
  exact ⟨rfl, rfl⟩

/-- 'make([]T, n)' of one-cell elements: the new block as a row -/
theorem wpList_make_cells {P : Program} (w : World) {ops : Array Oper} {rest : List Oper} {o : Oper} {a : Act} {Q : Exit → Act → World → Prop}
    (hg : o.guard = none) (l c : Operand) (t : TypeId) (hop : o.op = Op.makeSlice t l c) (e : TypeId) (bytes : Nat) (h1 : P.underlying t = some (.slice e))
    (h2 : (P.info? e).map (fun i => (i.zero.isSome, i.size, i.bytes)) = some (true, 1, bytes)) (n : Nat) (hl : a.eval l = .int .i64 n) (hc : a.eval c = .int .i64 n)
    (hb : bytes * n ≤ 281474976710656) (hn : n ≤ maxLen)
    (hK : ∀ w' (cur : List Value), Ext w w' → Hid (w'.heap[w.heap.size]? = some (.cells cur.toArray e (0, 0))) → cur.length = n → wpList P ops Q rest (a.put o.dst (.slice (some ⟨w.heap.size, 0, none⟩) n n)) w') : wpList P ops Q (o :: rest) a w := by
  obtain ⟨i, hi, hzz⟩ := Option.map_eq_some_iff.1 h2
  simp only [Prod.mk.injEq] at hzz
  obtain ⟨z1, z2, z3⟩ := hzz
  obtain ⟨z, hz⟩ := Option.isSome_iff_exists.1 z1
  have hb' : (i.bytes : Int) * (n : Int) ≤ 281474976710656 := by
    have h : ((i.bytes * n : Nat) : Int) ≤ 281474976710656 := by rw [z3]; omega
    rwa [Int.natCast_mul] at h
  have hn' : (n : Int) ≤ 9223372036854775807 := by unfold maxLen at hn; omega
  have hr := run_make (P := P) w t e i z h1 hi hz .i64 .i64 n n (by omega) (by omega) hb' hn'
  simp only [Int.toNat_natCast] at hr
  refine wpList_plain hg fun K hK' => ?_
  unfold Oper.wp
  simp [execOp, hop, hl, hc, hr, Result.andThen]
  have hh : (w.alloc (.cells (madeCells z.cells (n * i.size)) e)).heap[w.heap.size]? = some (.cells (madeCells z.cells (n * i.size)) e) := by
    show (w.heap.push _)[w.heap.size]? = _
    simp
  exact hK' _ _ (hK _ (madeCells z.cells (n * i.size)).toList ((Ext.refl w).alloc _) (show _ = _ by simpa using hh) (by simp [size_madeCells, z2]))

theorem splice_all {cu cs : List Value} {m n : Nat} {x : Int} (h : ∀ i, i < m → cu[i]? = some (.int .i64 x)) (hcs : cs = cu.take (min m (n - m))) (hmn : m < n) (hl : cu.length = n) :
    ∀ i, i < m + cs.length → (splice cu m cs)[i]? = some (.int .i64 x) := by
  intro i hi
  have hlc : cs.length = min m (n - m) := by rw [hcs, List.length_take]; omega
  unfold splice
  by_cases e : i < m
  · rw [List.getElem?_append_left (by rw [List.length_take]; omega), List.getElem?_take, if_pos e]
    exact h i e
  · rw [List.getElem?_append_right (by rw [List.length_take]; omega), List.length_take, Nat.min_eq_left (by omega), List.getElem?_append_left (by omega), hcs, List.getElem?_take, if_pos (by omega)]
    exact h _ (by omega)
theorem Own.of_cells {w : World} {g n : Nat} {cu : List Value} {x : Int} {T : TypeId} (hg : w.heap[g]? = some (.cells cu.toArray T (0, 0))) (h : ∀ i, i < n → cu[i]? = some (.int .i64 x)) (hn : n ≤ 1048576) (hl : cu.length = n) :
    Own w g 1 (.slice (some ⟨g, 0, none⟩) n n) n (intCell (List.replicate n x)) := by
  refine ⟨by unfold maxLen; omega, _, _, rfl, Nat.le_refl _, fun h0 => ⟨?_, 0, rfl, fun i hi => ⟨?_, ?_⟩⟩⟩
  · rcases Nat.lt_or_ge g w.heap.size with e | e
    · exact e
    · rw [Array.getElem?_eq_none (by omega)] at hg; cases hg
  · have hi' : i < n := by omega
    unfold World.cell?
    rw [Nat.zero_add]
    simp only [hg]
    have := h i hi'
    have e2 : intCell (List.replicate n x) i = .int .i64 x := by unfold intCell inAt; simp [List.getD, hi']
    rw [e2]
    simpa using this
  · unfold World.frozen?
    simp only [hg]
    simp
set_option maxRecDepth 100000 in
set_option maxHeartbeats 2000000 in
theorem slices_Repeat (v : Value) (x : Int) (n : Nat) (hn : n ≤ 12) (h0 : 0 < n) (w : World) (h : Ints w 0 w.heap.size v [x]) :
    Calls Tryz.prog 314 #[v, .int .i64 n] w (NewRow 1 n (intCell (List.replicate n x)) w) := by
  obtain ⟨A, c, rfl, hl, hc⟩ := h.len
  obtain ⟨b, off, rfl, _, hb, h1⟩ := h.at_ (i := 0) (by simp)
  have H := Lib.hid h
  clear h
  have hh1 : (decide ((n : Int) < 0)) = false := decide_eq_false (by omega)
  have Hsrc : Hid (∀ w', Ext w w' → w'.cell? ⟨b, off + 0, none⟩ = some (.int .i64 x)) := Lib.hid (fun w' hx => (hx.cell (p := ⟨b, off + 0, none⟩) hb).trans (by simpa [inAt] using h1))
  go_enter Tryz.func314, Tryz.ntmps314
  go_wp2_with fail
  refine Calls.mono (bits_Mul_one n hn w) ?_
  rintro e w1 ⟨rfl, rfl⟩
  go_wp2_with (first | (at_make; refine wpList_make_cells _ rfl _ _ 42 rfl 2 8 Tryz.underlying42 (by kernel_rfl) n rfl rfl (by omega) (by unfold maxLen; omega) ?_; intro w0 cur hx0 hb0 hcl) | (refine wpList_copy_splice rfl _ _ 42 42 rfl 2 Tryz.underlying42 (by kernel_rfl) _ _ _ _ _ _ rfl rfl w.heap.size 0 cur 2 hb0.out [.int .i64 x] (by show 1 = min 1 n; omega) (fun _ => ⟨rfl, _, rfl, fun j v hj => by match j, hj with | 0, hj => simp at hj; subst hj; exact Hsrc.out _ hx0⟩) (by show 0 + 1 ≤ cur.length; omega) (by intro v hv; simp at hv; subst hv; rfl) w.heap.size w hx0 (Nat.le_refl _) ?_; intro w2 hb2 hx2))
  have Hb2 : Hid (w2.heap[w.heap.size]? = some (.cells (splice cur 0 [Value.int .i64 x]).toArray 2 (0, 0))) := hb2
  have hlen2 : (splice cur 0 [Value.int .i64 x]).length = n := by rw [length_splice _ _ _ (by show 0 + 1 ≤ cur.length; omega)]; exact hcl
  have hfst : ∀ i, i < 1 → (splice cur 0 [Value.int .i64 x])[i]? = some (.int .i64 x) := by
    intro i hi
    match i, hi with
    | 0, _ => simp [splice]
  generalize splice cur 0 [Value.int .i64 x] = c0 at Hb2 hlen2 hfst
  have Hfst := Lib.hid hfst
  have Hlen2 := Lib.hid hlen2
  have Hx2 : Hid (Ext w w2) := Lib.hid hx2
  clear hb2 hb0 hfst hlen2 hcl hx2 hx0
  go_loopg [8] (n - 1) (fun q i wr => ∃ (m : Nat) (cu : List Value), 0 < m ∧ m ≤ n ∧ q = n - m ∧ i = .int .i64 m ∧ Ext w wr ∧ Hid (wr.heap[w.heap.size]? = some (.cells cu.toArray 2 (0, 0))) ∧ cu.length = n ∧ ∀ i, i < m → cu[i]? = some (.int .i64 x))
  case atStart => exact ⟨1, c0, by omega, by omega, rfl, rfl, Hx2.out, Hb2, Hlen2.out, Hfst.out⟩
  case round =>
    obtain ⟨m, cu, hm0, hmn, hq, rfl, hxr, hcu, hcl, hall⟩ := hrel
    have Hall := Lib.hid hall
    have Hcl := Lib.hid hcl
    have Hq := Lib.hid hq
    have Hcu := Lib.hid hcu.out
    clear hall hcl hq hcu
    by_cases hlt : m < n
    · have hcl : cu.length = n := Hcl.out
      have hclm : cu.length ≤ 12 := by omega
      go_wp2_with fail
      have q4 : ¬ (n = m) := by omega
      obtain ⟨cs, hcs⟩ : ∃ cs, cs = cu.take (min m (n - m)) := ⟨_, rfl⟩
      have Hcs := Lib.hid hcs
      have hqm : cs.length = min m (n - m) := by rw [hcs, List.length_take]; omega
      have Hqm : Hid (cs.length = Nat.min m (n - m)) := Lib.hid hqm
      obtain ⟨q, hql⟩ : ∃ q, cs.length = q := ⟨_, rfl⟩
      have Hq1 : Hid (q = min m (n - m)) := Lib.hid (hql.symm.trans hqm)
      have Hfit : Hid (m + cs.length ≤ cu.length) := Lib.hid (by rw [hqm, hcl]; omega)
      have Hone : Hid (∀ v ∈ cs, v.oneCell' = true) := Lib.hid (fun v hv => by
        rw [hcs] at hv
        obtain ⟨i, hi, e⟩ := List.getElem_of_mem hv
        have hi' : i < m := by rw [List.length_take] at hi; omega
        have := Hall.out i hi'
        rw [List.getElem_take] at e
        rw [List.getElem?_eq_getElem (by rw [List.length_take] at hi; omega)] at this
        injection this with this
        rw [← e, this]; rfl)
      have Hsrc2 : Hid (∀ w' : World, w'.heap[w.heap.size]? = some (.cells cu.toArray 2 (0, 0)) → ∀ j v, cs[j]? = some v → w'.cell? (Addr.add ⟨w.heap.size, 0, none⟩ j) = some v) := Lib.hid (fun w' hw j v hj => by
        rw [hcs] at hj
        have h1 : cu[j]? = some v := by
          rw [List.getElem?_take] at hj
          split at hj
          · exact hj
          · cases hj
        rw [Addr.add_lit]
        unfold World.cell?
        simp only [hw]
        simpa using h1)
      have Hall2 := Lib.hid (splice_all Hall.out hcs hlt (by omega))
      have Hlen2 := Lib.hid (length_splice cu m cs Hfit.out)
      have W1 : IntKind.i64.wrap ((m : Int) + (q : Int)) = (m : Int) + (q : Int) := IntWalk.i64_in _ (by have := Hq1.out; omega)
      clear hcs hqm Hsrc Hall
      go_region_held3 (fun w' => True) (trivial) ((refine step_copy_splice rfl (.tmp 41) (.tmp 44) 42 42 rfl 2 Tryz.underlying42 (by kernel_rfl) _ (some ⟨w.heap.size, 0, none⟩) (n - m) (n - m) m n rfl rfl w.heap.size m cu 2 Hcu.out cs Hqm.out (fun _ => ⟨rfl, _, rfl, Hsrc2.out _ Hcu.out⟩) Hfit.out Hone.out w.heap.size w (by exact hxr.drew) (Nat.le_refl _) ?_; intro w4 hg4 hb4))
      go_wp2_with fail
      go_roundg (n - (m + q))
      case measure => have := Hq1.out; have := Hq.out; omega
      case rel => exact ⟨m + q, splice cu m cs, by omega, by have := Hq1.out; omega, rfl, by go_num, hb4, hg4, by rw [Hlen2.out, Hcl.out], by rw [← hql]; exact Hall2.out⟩
    · obtain rfl : m = n := by omega
      go_wp2_with fail
      go_ret
      refine ⟨_, _, rfl, hxr, fun _ => Nat.le_refl _, ?_⟩
      exact Own.of_cells Hcu.out Hall.out (by omega) Hcl.out
end Go.Proofs.YtmmokjnljaifcaaGreatDoor
