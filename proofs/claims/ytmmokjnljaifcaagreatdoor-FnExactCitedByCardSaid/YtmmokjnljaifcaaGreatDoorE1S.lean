/- Memory that grows by append: a row of the call's own, what is appended a row of any memory; sets under way. No program in sight. -/
import Derived.Test.YtmmokjnljaifcaaGreatDoorE1Lib
import Derived.ArgAppend
import Derived.Deep.DeepAppendRoom
namespace Go.Proofs.YtmmokjnljaifcaaGreatDoor
set_option linter.unusedVariables false
set_option linter.unusedSimpArgs false
open Go.RowKit

/-- the first N cells of f -/
def cellsOf (N : Nat) (f : Nat → Value) : List Value := (List.range N).map f
theorem cellsOf_len (N : Nat) (f : Nat → Value) : (cellsOf N f).length = N := by simp [cellsOf]
theorem cellsOf_at {N i : Nat} {f : Nat → Value} (h : i < N) : (cellsOf N f)[i]? = some (f i) := by simp [cellsOf, h]
theorem of_cellsOf {N j : Nat} {f : Nat → Value} {u : Value} (h : (cellsOf N f)[j]? = some u) : j < N ∧ u = f j := by
  have hj : j < N := by
    have := (List.getElem?_eq_some_iff.1 h).1
    rwa [cellsOf_len] at this
  rw [cellsOf_at hj] at h
  exact ⟨hj, by injection h with h; exact h.symm⟩
theorem mem_cellsOf {N : Nat} {f : Nat → Value} {u : Value} (h : u ∈ cellsOf N f) : ∃ i, i < N ∧ u = f i := by
  unfold cellsOf at h
  obtain ⟨i, hi, e⟩ := List.mem_map.1 h
  exact ⟨i, by simpa using hi, e.symm⟩
theorem cellsOf_congr {N : Nat} {f f' : Nat → Value} (h : ∀ i, i < N → f i = f' i) : cellsOf N f = cellsOf N f' := by
  unfold cellsOf
  exact List.map_congr_left (fun i hi => h i (by simpa using hi))
theorem cellsOf_append (N M : Nat) (f f' : Nat → Value) : cellsOf N f ++ cellsOf M f' = cellsOf (N + M) (fun i => if i < N then f i else f' (i - N)) := by
  refine List.ext_getElem? (fun i => ?_)
  by_cases h : i < N
  · rw [List.getElem?_append_left (by rw [cellsOf_len]; exact h), cellsOf_at h, cellsOf_at (by omega), if_pos h]
  · rw [List.getElem?_append_right (by rw [cellsOf_len]; omega), cellsOf_len]
    by_cases h2 : i - N < M
    · rw [cellsOf_at h2, cellsOf_at (by omega), if_neg h]
    · rw [List.getElem?_eq_none (by rw [cellsOf_len]; omega), List.getElem?_eq_none (by rw [cellsOf_len]; omega)]

/-- what an append leaves: only the row's own block (from b on) has turned, and the row is in that block or in a new one -/
def Put (b : Nat) (w : World) (v : Value) (w' : World) (v' : Value) : Prop := Off (fun k => b ≤ k ∧ k < w.heap.size ∧ v.ownBlock = some k) w w' ∧ ∀ g, v'.ownBlock = some g → (b ≤ g ∧ g < w.heap.size ∧ v.ownBlock = some g) ∨ w.heap.size ≤ g
/-- what may be appended to: a row of the call's own from b on, or what is empty and has no room -/
def Dst (w : World) (b : Nat) (e : TypeId) (sz : Nat) (v : Value) (n : Nat) (xs : List Value) : Prop := w.ownsRow b e sz v n xs ∨ (n = 0 ∧ xs = [] ∧ (∃ A, v = .slice A 0 0) ∧ ∀ g, v.ownBlock = some g → g < w.heap.size)
theorem Dst.lt {w : World} {b : Nat} {e : TypeId} {sz n : Nat} {v : Value} {xs : List Value} (h : Dst w b e sz v n xs) : ∀ g, v.ownBlock = some g → g < w.heap.size := by
  rcases h with h | ⟨_, _, _, h⟩
  · exact fun g hg => (h.lt g hg).2
  · exact h
theorem Dst.len {w : World} {b : Nat} {e : TypeId} {sz n : Nat} {v : Value} {xs : List Value} (h : Dst w b e sz v n xs) : ∃ A c, v = .slice A n c := by
  rcases h with h | ⟨h1, _, ⟨A, h⟩, _⟩
  · rcases h.2 with ⟨rfl, rfl⟩ | ⟨g, cap, cur, rfl, _⟩
    · exact ⟨_, _, rfl⟩
    · exact ⟨_, _, rfl⟩
  · subst h1; exact ⟨A, 0, h⟩
theorem Off.of_grown {w w' : World} {row : Option Nat} (h : w.grownBy w' row) : Off (fun k => row = some k) w w' := ⟨h.os, h.tape, h.output, h.size, fun k hk hs => h.block k hk (fun e => hs e.symm)⟩
theorem ownsRow_mono {w : World} {b b' : Nat} {e : TypeId} {sz n : Nat} {v : Value} {xs : List Value} (h : w.ownsRow b e sz v n xs) (hb : b' ≤ b) : w.ownsRow b' e sz v n xs := by
  obtain ⟨h1, h2⟩ := h
  refine ⟨h1, ?_⟩
  rcases h2 with h2 | ⟨g, cap, cur, hv, hg, r⟩
  · exact .inl h2
  · exact .inr ⟨g, cap, cur, hv, by omega, r⟩
theorem ownsRow_off {S : Nat → Prop} {w w' : World} {b : Nat} {e : TypeId} {sz n : Nat} {v : Value} {xs : List Value} (h : w.ownsRow b e sz v n xs) (hx : Off S w w') (hs : ∀ g, v.ownBlock = some g → ¬ S g) : w'.ownsRow b e sz v n xs := by
  have hlt := h.lt
  obtain ⟨h1, h2⟩ := h
  refine ⟨h1, ?_⟩
  rcases h2 with h2 | ⟨g, cap, cur, hv, hg, hh, r⟩
  · exact .inl h2
  · subst hv
    exact .inr ⟨g, cap, cur, rfl, hg, (hx.block g (hlt g rfl).2 (hs g rfl)).trans hh, r⟩
/-- an owned row as a row of its own block -/
theorem Own.of_owned {w : World} {base n sz : Nat} {e : TypeId} {v : Value} {f : Nat → Value} (h : w.ownsRow base e sz v n (cellsOf (n * sz) f)) :
    ∃ g, (0 < n → v.ownBlock = some g ∧ base ≤ g) ∧ Own w g sz v n f := by
  obtain ⟨g, hg, ho⟩ := Own.of_row (f := f) h (fun i hi => cellsOf_at hi)
  refine ⟨g, fun hn => ⟨?_, hg hn⟩, ho⟩
  obtain ⟨A, c, e1⟩ := ho.len
  subst e1
  obtain ⟨off, hA, _⟩ := ho.at_ hn
  subst hA
  rfl
theorem Dst.off {S : Nat → Prop} {w w' : World} {b : Nat} {e : TypeId} {sz n : Nat} {v : Value} {xs : List Value} (h : Dst w b e sz v n xs) (hx : Off S w w') (hs : ∀ k, b ≤ k → ¬ S k) : Dst w' b e sz v n xs := by
  rcases h with h | ⟨h1, h2, h3, h4⟩
  · exact .inl (ownsRow_off h hx (fun g hg => hs g (h.lt g hg).1))
  · exact .inr ⟨h1, h2, h3, fun g hg => Nat.lt_of_lt_of_le (h4 g hg) hx.size⟩
theorem Put.ext {a w w' : World} {v v' : Value} {base : Nat} (h : Put base w v w' v') (hx : Ext a w) (hb : a.heap.size ≤ base) : Ext a w' :=
  hx.off h.1 (fun k hk hs => by have := hs.1; omega)
theorem Put.size {b : Nat} {w w' : World} {v v' : Value} (h : Put b w v w' v') : w.heap.size ≤ w'.heap.size := h.1.size

theorem run_append_nil_any {P : Program} {w : World} (base : Nat) (t ty e : TypeId) (i : TypeInfo) (size : Nat) (ht : P.underlying t = some (.slice e)) (hi : P.info? e = some i)
    (v : Value) (n : Nat) (xs : List Value) (hown : w.ownsRow base e size v n xs) (c : Nat) :
    (Builtin.append_ #[t, t] ty #[v, .slice none 0 c]).run P w = .ok v w := by
  rcases hown.2 with ⟨rfl, rfl⟩ | ⟨g, cap, cur, rfl, _, _, hnc, _⟩
  · simp [Builtin.append_, run_underlying ht, sizeOf, typeInfo, hi, Builtin.lenOf, Builtin.firstCells]
  · simp [Builtin.append_, run_underlying ht, sizeOf, typeInfo, hi, Builtin.lenOf, Builtin.firstCells, hnc, storeCells]

/-- append of a row of any memory onto a row of the call's own: its run -/
theorem run_append_row {P : Program} {w : World} (t ty : TypeId) (base : Nat) (e : TypeId) (size bytes : Nat) (ht : P.underlying t = some (.slice e))
    (hi : (P.info? e).map (fun i => (i.zero.map (·.cells.size), i.size, i.bytes)) = some (some size, size, bytes)) (hsz : 0 < size)
    (v : Value) (n m : Nat) (xs : List Value) (hown : Dst w base e size v n xs) (hm0 : w.ownsRow base e size v n xs ∨ 0 < m) (lo hi' : Nat) (u : Value) (f : Nat → Value) (hrow : Row w lo hi' size u m f)
    (h1 : ∀ i, i < m * size → (f i).oneCell' = true) (h63 : n + m ≤ maxLen) (hbytes : (n + m) * bytes ≤ 140737488355328) (hbase : base ≤ w.heap.size) :
    ∃ v' w', (Builtin.append_ #[t, t] ty #[v, u]).run P w = .ok v' w' ∧ w'.ownsRow base e size v' (n + m) (xs ++ cellsOf (m * size) f) ∧ Put base w v w' v' := by
  obtain ⟨i, hi', hzz⟩ := Option.map_eq_some_iff.1 hi
  simp only [Prod.mk.injEq] at hzz
  obtain ⟨z1, z2, z3⟩ := hzz
  obtain ⟨z, hz, hzc⟩ := Option.map_eq_some_iff.1 z1
  obtain ⟨hm, A, c, rfl, hc, hr⟩ := hrow
  have one : ∀ u ∈ cellsOf (m * size) f, u.oneCell' = true := fun u hu => by
    obtain ⟨i, hi, e⟩ := mem_cellsOf hu
    rw [e]; exact h1 i hi
  have old : ∀ {k : Nat}, w.ownsRow base e size v n xs → v.ownBlock = some k → base ≤ k ∧ k < w.heap.size ∧ v.ownBlock = some k := fun ho hk => ⟨(ho.lt _ hk).1, (ho.lt _ hk).2, hk⟩
  cases A with
  | none =>
    have hm0' : m = 0 := by
      rcases Nat.eq_zero_or_pos m with e0 | e0
      · exact e0
      · obtain ⟨b, off, hA, _⟩ := hr e0
        cases hA
    subst hm0'
    have ho : w.ownsRow base e size v n xs := by
      rcases hm0 with h | h
      · exact h
      · omega
    exact ⟨v, w, run_append_nil_any (P := P) (w := w) base t ty e i size ht hi' v n xs ho c, by simpa [cellsOf] using ho, Off.refl _ _, fun g hg => .inl (old ho hg)⟩
  | some ad =>
    have hnews : ∀ j u, (cellsOf (m * size) f)[j]? = some u → w.cell? (ad.add j) = some u := by
      intro j u hj
      obtain ⟨hj1, e⟩ := of_cellsOf hj
      have hm0 : 0 < m := by
        rcases Nat.eq_zero_or_pos m with e0 | e0
        · rw [e0, Nat.zero_mul] at hj1; omega
        · exact e0
      obtain ⟨b, off, hA, _, _, hcell⟩ := hr hm0
      injection hA with hA
      subst hA
      rw [Addr.add_lit, e]
      exact hcell j hj1
    have hcase : w.ownsRow base e size v n xs ∨ (0 < m ∧ n = 0 ∧ xs = [] ∧ ∃ A, v = .slice A 0 0) := by
      rcases hm0 with h | h
      · exact .inl h
      · rcases hown with h2 | ⟨h2, h3, h4, _⟩
        · exact .inl h2
        · exact .inr ⟨h, h2, h3, h4⟩
    rcases hcase with hown | ⟨hm1, rfl, rfl, ⟨A, rfl⟩⟩
    · have hown' := hown
      rcases hown'.2 with ⟨rfl, rfl⟩ | ⟨g, cap, cur, rfl, hbg, hg, hnc, hcm, hcs, htake⟩
      · have hnil : w.ownsRow w.heap.size e size (.slice none 0 0) 0 xs := ⟨hown.1, .inl ⟨rfl, rfl⟩⟩
        obtain ⟨v', w', r1, r2, r3, _⟩ := run_append_own (P := P) w w.heap.size t ty e i z size bytes ht hi' hz z2 z3 hzc hsz _ 0 xs hnil ad m c (cellsOf (m * size) f) (cellsOf_len _ _) hnews one h63 hbytes (Nat.le_refl _)
        exact ⟨v', w', r1, ownsRow_mono r2 hbase, (Off.of_grown r3).mono (fun k hk => by cases hk), fun g hg => .inr (r2.lt g hg).1⟩
      · by_cases hfit : n + m ≤ cap
        · obtain ⟨w', r1, r2, r3⟩ := run_append_own_spare (P := P) w base t ty e i size ht hi' z2 g n cap xs hown ad m c (cellsOf (m * size) f) (cellsOf_len _ _) hnews one hfit
          exact ⟨_, w', r1, r2, (Off.of_grown r3).mono (fun k hk => old hown hk), fun g' hg' => .inl (old hown hg')⟩
        · obtain ⟨v', w', r1, r2, r3⟩ := run_append_arg_grows (P := P) w t ty e i z size bytes ht hi' hz z2 z3 hzc hsz ⟨g, 0, none⟩ n cap xs hown.1 (fun j u hj => hown.cells rfl j u hj) ad m c (cellsOf (m * size) f) (cellsOf_len _ _) hnews (by omega) h63 hbytes
          exact ⟨v', w', r1, ownsRow_mono r2 hbase, (Off.of_grown r3).mono (fun k hk => by cases hk), fun g' hg' => .inr (r2.lt g' hg').1⟩
    · cases A with
      | none =>
        have hnil : w.ownsRow w.heap.size e size (.slice none 0 0) 0 [] := ⟨by simp, .inl ⟨rfl, rfl⟩⟩
        obtain ⟨v', w', r1, r2, r3, _⟩ := run_append_own (P := P) w w.heap.size t ty e i z size bytes ht hi' hz z2 z3 hzc hsz _ 0 [] hnil ad m c (cellsOf (m * size) f) (cellsOf_len _ _) hnews one h63 hbytes (Nat.le_refl _)
        exact ⟨v', w', r1, ownsRow_mono r2 hbase, (Off.of_grown r3).mono (fun k hk => by cases hk), fun g hg => .inr (r2.lt g hg).1⟩
      | some b =>
        obtain ⟨v', w', r1, r2, r3⟩ := run_append_arg_grows (P := P) w t ty e i z size bytes ht hi' hz z2 z3 hzc hsz b 0 0 [] (by simp) (fun j u hj => by simp at hj) ad m c (cellsOf (m * size) f) (cellsOf_len _ _) hnews (by omega) h63 hbytes
        exact ⟨v', w', r1, ownsRow_mono r2 hbase, (Off.of_grown r3).mono (fun k hk => by cases hk), fun g' hg' => .inr (r2.lt g' hg').1⟩
/-- .. for the walk -/
theorem wpList_append_row {P : Program} (w : World) {ops : Array Oper} {rest : List Oper} {o : Oper} {a : Act} {Q : Exit → Act → World → Prop} (hgd : o.guard = none) (s x : Operand) (t : TypeId)
    (ho : o.op = .call { callee := .builtin .append, args := #[s, x], argTypes := #[t, t] }) (base : Nat) (e : TypeId) (size bytes : Nat) (ht : P.underlying t = some (.slice e))
    (hi : (P.info? e).map (fun i => (i.zero.map (·.cells.size), i.size, i.bytes)) = some (some size, size, bytes)) (hsz : 0 < size)
    (v : Value) (n m : Nat) (xs : List Value) (hs : a.eval s = v) (hown : Dst w base e size v n xs) (hm0 : w.ownsRow base e size v n xs ∨ 0 < m) (lo hi' : Nat) (u : Value) (f : Nat → Value) (hx : a.eval x = u) (hrow : Row w lo hi' size u m f)
    (h1 : ∀ i, i < m * size → (f i).oneCell' = true) (h63 : n + m ≤ maxLen) (hbytes : (n + m) * bytes ≤ 140737488355328) (hbase : base ≤ w.heap.size)
    (h : ∀ v' w', w'.ownsRow base e size v' (n + m) (xs ++ cellsOf (m * size) f) → Put base w v w' v' → wpList P ops Q rest (a.put o.dst v') w') : wpList P ops Q (o :: rest) a w := by
  obtain ⟨v', w', hr, h2, h3⟩ := run_append_row (P := P) (w := w) t o.type base e size bytes ht hi hsz v n m xs hown hm0 lo hi' u f hrow h1 h63 hbytes hbase
  refine wpList_plain hgd fun K hK => ?_
  unfold Oper.wp execOp
  simp only [ho, resolve, invoke, builtin, Sem.run_bind, Sem.run_pure, Result.andThen_ok, List.map_toArray, List.map_cons, List.map_nil, hs, hx, hr]
  exact hK _ _ (h v' w' h2 h3)
/-- .. as one step of a region that draws its order -/
theorem step_append_row {P : Program} {ops : Array Oper} {o : Oper} {a : Act} {w : World} {K : Act → World → Prop} {Q : Exit → Act → World → Prop} {E : Prop} (hgd : o.guard = none) (s x : Operand) (t : TypeId)
    (ho : o.op = .call { callee := .builtin .append, args := #[s, x], argTypes := #[t, t] }) (base : Nat) (e : TypeId) (size bytes : Nat) (ht : P.underlying t = some (.slice e))
    (hi : (P.info? e).map (fun i => (i.zero.map (·.cells.size), i.size, i.bytes)) = some (some size, size, bytes)) (hsz : 0 < size)
    (v : Value) (n m : Nat) (xs : List Value) (hs : a.eval s = v) (hown : Dst w base e size v n xs) (hm0 : w.ownsRow base e size v n xs ∨ 0 < m) (lo hi' : Nat) (u : Value) (f : Nat → Value) (hx : a.eval x = u) (hrow : Row w lo hi' size u m f)
    (h1 : ∀ i, i < m * size → (f i).oneCell' = true) (h63 : n + m ≤ maxLen) (hbytes : (n + m) * bytes ≤ 140737488355328) (hbase : base ≤ w.heap.size)
    (h : ∀ v' w', w'.ownsRow base e size v' (n + m) (xs ++ cellsOf (m * size) f) → Put base w v w' v' → K (a.put o.dst v') w') :
    if Region.wanted o (yielded ops a.tmps) = true then Oper.wp P o a w K Q else E := by
  have hw : Region.wanted o (yielded ops a.tmps) = true := by simp [Region.wanted, hgd]
  rw [if_pos hw]
  obtain ⟨v', w', hr, h2, h3⟩ := run_append_row (P := P) (w := w) t o.type base e size bytes ht hi hsz v n m xs hown hm0 lo hi' u f hrow h1 h63 hbytes hbase
  unfold Oper.wp execOp
  simp only [ho, resolve, invoke, builtin, Sem.run_bind, Sem.run_pure, Result.andThen_ok, List.map_toArray, List.map_cons, List.map_nil, hs, hx, hr]
  exact h v' w' h2 h3
/-- a box of one element as a row -/
theorem Boxed.row {w : World} {g sz : Nat} {cs : List Value} {f : Nat → Value} (h : Boxed w g cs) (hl : cs.length = sz) (hf : ∀ i, i < sz → cs[i]? = some (f i)) : Row w 0 w.heap.size sz (.slice (some ⟨g, 0, none⟩) 1 1) 1 f :=
  ⟨by unfold maxLen; omega, _, _, rfl, Nat.le_refl _, fun _ => ⟨g, 0, rfl, Nat.zero_le _, h.1, fun i hi => by rw [Nat.zero_add]; exact (h.2 i _ (hf i (by omega))).1⟩⟩
theorem spanCell_one (l : List Sp) (i : Nat) : (spanCell l i).oneCell' = true := by unfold spanCell; split <;> rfl
/-- what a clone returns: a row of its own in new memory -/
def NewOwn (T sz n : Nat) (f : Nat → Value) (w : World) (e : Ending) (w' : World) : Prop := ∃ v, e = .returned v ∧ Ext w w' ∧ w'.ownsRow w.heap.size T sz v n (cellsOf (n * sz) f)

/-! ### sets under way: the outer row T, each set in a block by itself -/
theorem Boxed.own {w : World} {g sz : Nat} {cs : List Value} {f : Nat → Value} (h : Boxed w g cs) (hl : cs.length = sz) (hf : ∀ i, i < sz → cs[i]? = some (f i)) : Own w g sz (.slice (some ⟨g, 0, none⟩) 1 1) 1 f :=
  ⟨by unfold maxLen; omega, _, _, rfl, Nat.le_refl _, fun _ => ⟨h.1, 0, rfl, fun i hi => by rw [Nat.zero_add]; exact h.2 i _ (hf i (by omega))⟩⟩
theorem span_cells (a b : Int) : ∀ i, i < 2 → [Value.int .i64 a, .int .i64 b][i]? = some (spanCell [⟨a, b⟩] i)
  | 0, _ => rfl
  | 1, _ => rfl
  | i + 2, h => absurd h (by omega)
end Go.Proofs.YtmmokjnljaifcaaGreatDoor
