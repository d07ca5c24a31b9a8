/- Texts merged (a claim holds at most sixty files): S, Dr, Ya. -/
import Derived.Test.YtbddkmlfjghllaaGreatDoorT1Lib
import Derived.ArgAppend
import Derived.Deep.DeepAppendRoom
/- Memory that grows by append: a row of the call's own, what is appended a row of any memory; sets under way. No program in sight. -/
namespace Go.Proofs.YtbddkmlfjghllaaGreatDoor
set_option linter.unusedVariables false
set_option linter.unusedSimpArgs false
open Go.RowKit

/-- the first N cells of f -/
def cellsOf (N : Nat) (f : Nat → Value) : List Value := (List.range N).map f
theorem cellsOf_len (N : Nat) (f : Nat → Value) : (cellsOf N f).length = N := by simp [cellsOf]
theorem cellsOf_at {N i : Nat} {f : Nat → Value} (h : i < N) : (cellsOf N f)[i]? = some (f i) := by simp [cellsOf, h]
theorem of_cellsOf {N j : Nat} {f : Nat → Value} {u : Value} (h : (cellsOf N f)[j]? = some u) : j < N ∧ u = f j := by
  have hj : j < N := by
    have := (List.getElem?_eq_some_iff.1 h).1
    rwa [cellsOf_len] at this
  rw [cellsOf_at hj] at h
  exact ⟨hj, by injection h with h; exact h.symm⟩
theorem mem_cellsOf {N : Nat} {f : Nat → Value} {u : Value} (h : u ∈ cellsOf N f) : ∃ i, i < N ∧ u = f i := by
  unfold cellsOf at h
  obtain ⟨i, hi, e⟩ := List.mem_map.1 h
  exact ⟨i, by simpa using hi, e.symm⟩
theorem cellsOf_congr {N : Nat} {f f' : Nat → Value} (h : ∀ i, i < N → f i = f' i) : cellsOf N f = cellsOf N f' := by
  unfold cellsOf
  exact List.map_congr_left (fun i hi => h i (by simpa using hi))
theorem cellsOf_append (N M : Nat) (f f' : Nat → Value) : cellsOf N f ++ cellsOf M f' = cellsOf (N + M) (fun i => if i < N then f i else f' (i - N)) := by
  refine List.ext_getElem? (fun i => ?_)
  by_cases h : i < N
  · rw [List.getElem?_append_left (by rw [cellsOf_len]; exact h), cellsOf_at h, cellsOf_at (by omega), if_pos h]
  · rw [List.getElem?_append_right (by rw [cellsOf_len]; omega), cellsOf_len]
    by_cases h2 : i - N < M
    · rw [cellsOf_at h2, cellsOf_at (by omega), if_neg h]
    · rw [List.getElem?_eq_none (by rw [cellsOf_len]; omega), List.getElem?_eq_none (by rw [cellsOf_len]; omega)]

/-- what an append leaves: only the row's own block (from b on) has turned, and the row is in that block or in a new one -/
def Put (b : Nat) (w : World) (v : Value) (w' : World) (v' : Value) : Prop := Off (fun k => b ≤ k ∧ k < w.heap.size ∧ v.ownBlock = some k) w w' ∧ ∀ g, v'.ownBlock = some g → (b ≤ g ∧ g < w.heap.size ∧ v.ownBlock = some g) ∨ w.heap.size ≤ g
/-- what may be appended to: a row of the call's own from b on, or what is empty and has no room -/
def Dst (w : World) (b : Nat) (e : TypeId) (sz : Nat) (v : Value) (n : Nat) (xs : List Value) : Prop := w.ownsRow b e sz v n xs ∨ (n = 0 ∧ xs = [] ∧ (∃ A, v = .slice A 0 0) ∧ ∀ g, v.ownBlock = some g → g < w.heap.size)
theorem Dst.lt {w : World} {b : Nat} {e : TypeId} {sz n : Nat} {v : Value} {xs : List Value} (h : Dst w b e sz v n xs) : ∀ g, v.ownBlock = some g → g < w.heap.size := by
  rcases h with h | ⟨_, _, _, h⟩
  · exact fun g hg => (h.lt g hg).2
  · exact h
theorem Dst.len {w : World} {b : Nat} {e : TypeId} {sz n : Nat} {v : Value} {xs : List Value} (h : Dst w b e sz v n xs) : ∃ A c, v = .slice A n c := by
  rcases h with h | ⟨h1, _, ⟨A, h⟩, _⟩
  · rcases h.2 with ⟨rfl, rfl⟩ | ⟨g, cap, cur, rfl, _⟩
    · exact ⟨_, _, rfl⟩
    · exact ⟨_, _, rfl⟩
  · subst h1; exact ⟨A, 0, h⟩
theorem Off.of_grown {w w' : World} {row : Option Nat} (h : w.grownBy w' row) : Off (fun k => row = some k) w w' := ⟨h.os, h.tape, h.output, h.size, fun k hk hs => h.block k hk (fun e => hs e.symm)⟩
theorem grownBy_refl (w : World) (row : Option Nat) : w.grownBy w row := ⟨rfl, rfl, rfl, Nat.le_refl _, fun _ _ _ => rfl⟩
theorem ownsRow_mono {w : World} {b b' : Nat} {e : TypeId} {sz n : Nat} {v : Value} {xs : List Value} (h : w.ownsRow b e sz v n xs) (hb : b' ≤ b) : w.ownsRow b' e sz v n xs := by
  obtain ⟨h1, h2⟩ := h
  refine ⟨h1, ?_⟩
  rcases h2 with h2 | ⟨g, cap, cur, hv, hg, r⟩
  · exact .inl h2
  · exact .inr ⟨g, cap, cur, hv, by omega, r⟩
theorem ownsRow_off {S : Nat → Prop} {w w' : World} {b : Nat} {e : TypeId} {sz n : Nat} {v : Value} {xs : List Value} (h : w.ownsRow b e sz v n xs) (hx : Off S w w') (hs : ∀ g, v.ownBlock = some g → ¬ S g) : w'.ownsRow b e sz v n xs := by
  have hlt := h.lt
  obtain ⟨h1, h2⟩ := h
  refine ⟨h1, ?_⟩
  rcases h2 with h2 | ⟨g, cap, cur, hv, hg, hh, r⟩
  · exact .inl h2
  · subst hv
    exact .inr ⟨g, cap, cur, rfl, hg, (hx.block g (hlt g rfl).2 (hs g rfl)).trans hh, r⟩
/-- an owned row as a row of its own block -/
theorem Own.of_owned {w : World} {base n sz : Nat} {e : TypeId} {v : Value} {f : Nat → Value} (h : w.ownsRow base e sz v n (cellsOf (n * sz) f)) :
    ∃ g, (0 < n → v.ownBlock = some g ∧ base ≤ g) ∧ Own w g sz v n f := by
  obtain ⟨g, hg, ho⟩ := Own.of_row (f := f) h (fun i hi => cellsOf_at hi)
  refine ⟨g, fun hn => ⟨?_, hg hn⟩, ho⟩
  obtain ⟨A, c, e1⟩ := ho.len
  subst e1
  obtain ⟨off, hA, _⟩ := ho.at_ hn
  subst hA
  rfl
theorem Dst.off {S : Nat → Prop} {w w' : World} {b : Nat} {e : TypeId} {sz n : Nat} {v : Value} {xs : List Value} (h : Dst w b e sz v n xs) (hx : Off S w w') (hs : ∀ k, b ≤ k → ¬ S k) : Dst w' b e sz v n xs := by
  rcases h with h | ⟨h1, h2, h3, h4⟩
  · exact .inl (ownsRow_off h hx (fun g hg => hs g (h.lt g hg).1))
  · exact .inr ⟨h1, h2, h3, fun g hg => Nat.lt_of_lt_of_le (h4 g hg) hx.size⟩
theorem Put.ext {a w w' : World} {v v' : Value} {base : Nat} (h : Put base w v w' v') (hx : Ext a w) (hb : a.heap.size ≤ base) : Ext a w' :=
  hx.off h.1 (fun k hk hs => by have := hs.1; omega)
theorem Put.size {b : Nat} {w w' : World} {v v' : Value} (h : Put b w v w' v') : w.heap.size ≤ w'.heap.size := h.1.size

theorem run_append_nil_any {P : Program} {w : World} (base : Nat) (t ty e : TypeId) (i : TypeInfo) (size : Nat) (ht : P.underlying t = some (.slice e)) (hi : P.info? e = some i)
    (v : Value) (n : Nat) (xs : List Value) (hown : w.ownsRow base e size v n xs) (c : Nat) :
    (Builtin.append_ #[t, t] ty #[v, .slice none 0 c]).run P w = .ok v w := by
  rcases hown.2 with ⟨rfl, rfl⟩ | ⟨g, cap, cur, rfl, _, _, hnc, _⟩
  · simp [Builtin.append_, run_underlying ht, sizeOf, typeInfo, hi, Builtin.lenOf, Builtin.firstCells]
  · simp [Builtin.append_, run_underlying ht, sizeOf, typeInfo, hi, Builtin.lenOf, Builtin.firstCells, hnc, storeCells]

/-- append of a row of any memory onto a row of the call's own: its run -/
theorem run_append_row {P : Program} {w : World} (t ty : TypeId) (base : Nat) (e : TypeId) (size bytes : Nat) (ht : P.underlying t = some (.slice e))
    (hi : (P.info? e).map (fun i => (i.zero.map (·.cells.size), i.size, i.bytes)) = some (some size, size, bytes)) (hsz : 0 < size)
    (v : Value) (n m : Nat) (xs : List Value) (hown : Dst w base e size v n xs) (hm0 : w.ownsRow base e size v n xs ∨ 0 < m) (lo hi' : Nat) (u : Value) (f : Nat → Value) (hrow : Row w lo hi' size u m f)
    (h1 : ∀ i, i < m * size → (f i).oneCell' = true) (h63 : n + m ≤ maxLen) (hbytes : (n + m) * bytes ≤ 140737488355328) (hbase : base ≤ w.heap.size) :
    ∃ v' w', (Builtin.append_ #[t, t] ty #[v, u]).run P w = .ok v' w' ∧ w'.ownsRow base e size v' (n + m) (xs ++ cellsOf (m * size) f) ∧ Put base w v w' v' := by
  obtain ⟨i, hi', hzz⟩ := Option.map_eq_some_iff.1 hi
  simp only [Prod.mk.injEq] at hzz
  obtain ⟨z1, z2, z3⟩ := hzz
  obtain ⟨z, hz, hzc⟩ := Option.map_eq_some_iff.1 z1
  obtain ⟨hm, A, c, rfl, hc, hr⟩ := hrow
  have one : ∀ u ∈ cellsOf (m * size) f, u.oneCell' = true := fun u hu => by
    obtain ⟨i, hi, e⟩ := mem_cellsOf hu
    rw [e]; exact h1 i hi
  have old : ∀ {k : Nat}, w.ownsRow base e size v n xs → v.ownBlock = some k → base ≤ k ∧ k < w.heap.size ∧ v.ownBlock = some k := fun ho hk => ⟨(ho.lt _ hk).1, (ho.lt _ hk).2, hk⟩
  cases A with
  | none =>
    have hm0' : m = 0 := by
      rcases Nat.eq_zero_or_pos m with e0 | e0
      · exact e0
      · obtain ⟨b, off, hA, _⟩ := hr e0
        cases hA
    subst hm0'
    have ho : w.ownsRow base e size v n xs := by
      rcases hm0 with h | h
      · exact h
      · omega
    exact ⟨v, w, run_append_nil_any (P := P) (w := w) base t ty e i size ht hi' v n xs ho c, by simpa [cellsOf] using ho, Off.refl _ _, fun g hg => .inl (old ho hg)⟩
  | some ad =>
    have hnews : ∀ j u, (cellsOf (m * size) f)[j]? = some u → w.cell? (ad.add j) = some u := by
      intro j u hj
      obtain ⟨hj1, e⟩ := of_cellsOf hj
      have hm0 : 0 < m := by
        rcases Nat.eq_zero_or_pos m with e0 | e0
        · rw [e0, Nat.zero_mul] at hj1; omega
        · exact e0
      obtain ⟨b, off, hA, _, _, hcell⟩ := hr hm0
      injection hA with hA
      subst hA
      rw [Addr.add_lit, e]
      exact hcell j hj1
    have hcase : w.ownsRow base e size v n xs ∨ (0 < m ∧ n = 0 ∧ xs = [] ∧ ∃ A, v = .slice A 0 0) := by
      rcases hm0 with h | h
      · exact .inl h
      · rcases hown with h2 | ⟨h2, h3, h4, _⟩
        · exact .inl h2
        · exact .inr ⟨h, h2, h3, h4⟩
    rcases hcase with hown | ⟨hm1, rfl, rfl, ⟨A, rfl⟩⟩
    · have hown' := hown
      rcases hown'.2 with ⟨rfl, rfl⟩ | ⟨g, cap, cur, rfl, hbg, hg, hnc, hcm, hcs, htake⟩
      · have hnil : w.ownsRow w.heap.size e size (.slice none 0 0) 0 xs := ⟨hown.1, .inl ⟨rfl, rfl⟩⟩
        obtain ⟨v', w', r1, r2, r3, _⟩ := run_append_own (P := P) w w.heap.size t ty e i z size bytes ht hi' hz z2 z3 hzc hsz _ 0 xs hnil ad m c (cellsOf (m * size) f) (cellsOf_len _ _) hnews one h63 hbytes (Nat.le_refl _)
        exact ⟨v', w', r1, ownsRow_mono r2 hbase, (Off.of_grown r3).mono (fun k hk => by cases hk), fun g hg => .inr (r2.lt g hg).1⟩
      · by_cases hfit : n + m ≤ cap
        · obtain ⟨w', r1, r2, r3⟩ := run_append_own_spare (P := P) w base t ty e i size ht hi' z2 g n cap xs hown ad m c (cellsOf (m * size) f) (cellsOf_len _ _) hnews one hfit
          exact ⟨_, w', r1, r2, (Off.of_grown r3).mono (fun k hk => old hown hk), fun g' hg' => .inl (old hown hg')⟩
        · obtain ⟨v', w', r1, r2, r3⟩ := run_append_arg_grows (P := P) w t ty e i z size bytes ht hi' hz z2 z3 hzc hsz ⟨g, 0, none⟩ n cap xs hown.1 (fun j u hj => hown.cells rfl j u hj) ad m c (cellsOf (m * size) f) (cellsOf_len _ _) hnews (by omega) h63 hbytes
          exact ⟨v', w', r1, ownsRow_mono r2 hbase, (Off.of_grown r3).mono (fun k hk => by cases hk), fun g' hg' => .inr (r2.lt g' hg').1⟩
    · cases A with
      | none =>
        have hnil : w.ownsRow w.heap.size e size (.slice none 0 0) 0 [] := ⟨by simp, .inl ⟨rfl, rfl⟩⟩
        obtain ⟨v', w', r1, r2, r3, _⟩ := run_append_own (P := P) w w.heap.size t ty e i z size bytes ht hi' hz z2 z3 hzc hsz _ 0 [] hnil ad m c (cellsOf (m * size) f) (cellsOf_len _ _) hnews one h63 hbytes (Nat.le_refl _)
        exact ⟨v', w', r1, ownsRow_mono r2 hbase, (Off.of_grown r3).mono (fun k hk => by cases hk), fun g hg => .inr (r2.lt g hg).1⟩
      | some b =>
        obtain ⟨v', w', r1, r2, r3⟩ := run_append_arg_grows (P := P) w t ty e i z size bytes ht hi' hz z2 z3 hzc hsz b 0 0 [] (by simp) (fun j u hj => by simp at hj) ad m c (cellsOf (m * size) f) (cellsOf_len _ _) hnews (by omega) h63 hbytes
        exact ⟨v', w', r1, ownsRow_mono r2 hbase, (Off.of_grown r3).mono (fun k hk => by cases hk), fun g' hg' => .inr (r2.lt g' hg').1⟩
/-- .. for the walk -/
theorem wpList_append_row {P : Program} (w : World) {ops : Array Oper} {rest : List Oper} {o : Oper} {a : Act} {Q : Exit → Act → World → Prop} (hgd : o.guard = none) (s x : Operand) (t : TypeId)
    (ho : o.op = .call { callee := .builtin .append, args := #[s, x], argTypes := #[t, t] }) (base : Nat) (e : TypeId) (size bytes : Nat) (ht : P.underlying t = some (.slice e))
    (hi : (P.info? e).map (fun i => (i.zero.map (·.cells.size), i.size, i.bytes)) = some (some size, size, bytes)) (hsz : 0 < size)
    (v : Value) (n m : Nat) (xs : List Value) (hs : a.eval s = v) (hown : Dst w base e size v n xs) (hm0 : w.ownsRow base e size v n xs ∨ 0 < m) (lo hi' : Nat) (u : Value) (f : Nat → Value) (hx : a.eval x = u) (hrow : Row w lo hi' size u m f)
    (h1 : ∀ i, i < m * size → (f i).oneCell' = true) (h63 : n + m ≤ maxLen) (hbytes : (n + m) * bytes ≤ 140737488355328) (hbase : base ≤ w.heap.size)
    (h : ∀ v' w', w'.ownsRow base e size v' (n + m) (xs ++ cellsOf (m * size) f) → Put base w v w' v' → wpList P ops Q rest (a.put o.dst v') w') : wpList P ops Q (o :: rest) a w := by
  obtain ⟨v', w', hr, h2, h3⟩ := run_append_row (P := P) (w := w) t o.type base e size bytes ht hi hsz v n m xs hown hm0 lo hi' u f hrow h1 h63 hbytes hbase
  refine wpList_plain hgd fun K hK => ?_
  unfold Oper.wp execOp
  simp only [ho, resolve, invoke, builtin, Sem.run_bind, Sem.run_pure, Result.andThen_ok, List.map_toArray, List.map_cons, List.map_nil, hs, hx, hr]
  exact hK _ _ (h v' w' h2 h3)
/-- .. as one step of a region that draws its order -/
theorem step_append_row {P : Program} {ops : Array Oper} {o : Oper} {a : Act} {w : World} {K : Act → World → Prop} {Q : Exit → Act → World → Prop} {E : Prop} (hgd : o.guard = none) (s x : Operand) (t : TypeId)
    (ho : o.op = .call { callee := .builtin .append, args := #[s, x], argTypes := #[t, t] }) (base : Nat) (e : TypeId) (size bytes : Nat) (ht : P.underlying t = some (.slice e))
    (hi : (P.info? e).map (fun i => (i.zero.map (·.cells.size), i.size, i.bytes)) = some (some size, size, bytes)) (hsz : 0 < size)
    (v : Value) (n m : Nat) (xs : List Value) (hs : a.eval s = v) (hown : Dst w base e size v n xs) (hm0 : w.ownsRow base e size v n xs ∨ 0 < m) (lo hi' : Nat) (u : Value) (f : Nat → Value) (hx : a.eval x = u) (hrow : Row w lo hi' size u m f)
    (h1 : ∀ i, i < m * size → (f i).oneCell' = true) (h63 : n + m ≤ maxLen) (hbytes : (n + m) * bytes ≤ 140737488355328) (hbase : base ≤ w.heap.size)
    (h : ∀ v' w', w'.ownsRow base e size v' (n + m) (xs ++ cellsOf (m * size) f) → Put base w v w' v' → K (a.put o.dst v') w') :
    if Region.wanted o (yielded ops a.tmps) = true then Oper.wp P o a w K Q else E := by
  have hw : Region.wanted o (yielded ops a.tmps) = true := by simp [Region.wanted, hgd]
  rw [if_pos hw]
  obtain ⟨v', w', hr, h2, h3⟩ := run_append_row (P := P) (w := w) t o.type base e size bytes ht hi hsz v n m xs hown hm0 lo hi' u f hrow h1 h63 hbytes hbase
  unfold Oper.wp execOp
  simp only [ho, resolve, invoke, builtin, Sem.run_bind, Sem.run_pure, Result.andThen_ok, List.map_toArray, List.map_cons, List.map_nil, hs, hx, hr]
  exact h v' w' h2 h3
/-- a box of one element as a row -/
theorem Boxed.row {w : World} {g sz : Nat} {cs : List Value} {f : Nat → Value} (h : Boxed w g cs) (hl : cs.length = sz) (hf : ∀ i, i < sz → cs[i]? = some (f i)) : Row w 0 w.heap.size sz (.slice (some ⟨g, 0, none⟩) 1 1) 1 f :=
  ⟨by unfold maxLen; omega, _, _, rfl, Nat.le_refl _, fun _ => ⟨g, 0, rfl, Nat.zero_le _, h.1, fun i hi => by rw [Nat.zero_add]; exact (h.2 i _ (hf i (by omega))).1⟩⟩
theorem Boxed.row1 {w : World} {g : Nat} {u : Value} (h : Boxed w g [u]) : Row w 0 w.heap.size 1 (.slice (some ⟨g, 0, none⟩) 1 1) 1 (fun _ => u) :=
  h.row rfl (fun i hi => by obtain rfl : i = 0 := by omega
                            rfl)
theorem int_one (k : IntKind) (a : Int) : (Value.int k a).oneCell' = true := rfl
theorem spanCell_one (l : List Sp) (i : Nat) : (spanCell l i).oneCell' = true := by unfold spanCell; split <;> rfl
theorem linkCell_one (l : List Lk) (i : Nat) : (linkCell l i).oneCell' = true := by unfold linkCell; split; rfl; split; rfl; split <;> rfl
theorem intCell_one (l : List Int) (i : Nat) : (intCell l i).oneCell' = true := rfl

/-- what a clone returns: a row of its own in new memory -/
def NewOwn (T sz n : Nat) (f : Nat → Value) (w : World) (e : Ending) (w' : World) : Prop := ∃ v, e = .returned v ∧ Ext w w' ∧ w'.ownsRow w.heap.size T sz v n (cellsOf (n * sz) f)

/-! ### sets under way: the outer row T, each set in a block by itself -/
def SetsF (T : Nat) (w : World) (lo : Nat) (v : Value) (l : List (List Sp)) (f : Nat → Value) : Prop :=
  Dst w lo T 1 v l.length (cellsOf (l.length * 1) f) ∧ ∃ (g : Nat → Nat),
    (∀ i, i < l.length → Own w (g i) 2 (f i) (setAt l i).length (spanCell (setAt l i)) ∧ (0 < (setAt l i).length → lo ≤ g i ∧ v.ownBlock ≠ some (g i))) ∧
    (∀ i j, i < l.length → j < l.length → i ≠ j → 0 < (setAt l i).length → 0 < (setAt l j).length → g i ≠ g j)
def SetsBy (T : Nat) (w : World) (lo : Nat) (v : Value) (l : List (List Sp)) : Prop := ∃ f, SetsF T w lo v l f
theorem SetsBy.of_empty {T : Nat} {w : World} {lo : Nat} {v : Value} (h : Dst w lo T 1 v 0 []) : SetsBy T w lo v [] :=
  ⟨fun _ => .bool true, by simpa [cellsOf] using h, fun _ => 0, fun i hi => absurd hi (by simp), fun i j hi => absurd hi (by simp)⟩
theorem SetsBy.nil (T : Nat) (w : World) (lo : Nat) : SetsBy T w lo (.slice none 0 0) [] := SetsBy.of_empty (.inl (World.ownsRow_nil w lo T 1))
theorem SetsF.off {S : Nat → Prop} {T : Nat} {w w' : World} {lo : Nat} {v : Value} {l : List (List Sp)} {f : Nat → Value} (h : SetsF T w lo v l f) (hx : Off S w w') (hs : ∀ k, lo ≤ k → ¬ S k) : SetsF T w' lo v l f := by
  obtain ⟨h1, g, h2, h3⟩ := h
  exact ⟨h1.off hx hs, g, fun i hi => ⟨(h2 i hi).1.off hx (fun h0 => hs _ ((h2 i hi).2 h0).1), (h2 i hi).2⟩, h3⟩
theorem SetsF.ext {T : Nat} {w w' : World} {lo : Nat} {v : Value} {l : List (List Sp)} {f : Nat → Value} (h : SetsF T w lo v l f) (hx : Ext w w') : SetsF T w' lo v l f :=
  h.off (S := fun _ => False) (Off.of_ext hx) (fun _ _ h => h)
theorem SetsBy.ext {T : Nat} {w w' : World} {lo : Nat} {v : Value} {l : List (List Sp)} (h : SetsBy T w lo v l) (hx : Ext w w') : SetsBy T w' lo v l := by
  obtain ⟨f, h⟩ := h
  exact ⟨f, h.ext hx⟩
theorem SetsBy.off {S : Nat → Prop} {T : Nat} {w w' : World} {lo : Nat} {v : Value} {l : List (List Sp)} (h : SetsBy T w lo v l) (hx : Off S w w') (hs : ∀ k, lo ≤ k → ¬ S k) : SetsBy T w' lo v l := by
  obtain ⟨f, h⟩ := h
  exact ⟨f, h.off hx hs⟩
theorem setAt_push (l : List (List Sp)) (s : List Sp) {i : Nat} (hi : i < l.length + 1) : setAt (l ++ [s]) i = if i = l.length then s else setAt l i := by
  unfold setAt
  rw [List.getD_eq_getElem?_getD, List.getD_eq_getElem?_getD]
  by_cases h2 : i = l.length
  · subst h2; simp
  · rw [if_neg h2, List.getElem?_append_left (by omega)]
/-- one more set, its row in memory that is newer than all of the others -/
theorem SetsF.push {T : Nat} {w w2 w3 : World} {lo gu : Nat} {v v' u : Value} {l : List (List Sp)} {s : List Sp} {f : Nat → Value} (h : SetsF T w lo v l f) (hx : Ext w w2) (hgu : 0 < s.length → w.heap.size ≤ gu) (hlo : lo ≤ w.heap.size)
    (hu : Own w2 gu 2 u s.length (spanCell s)) (hp : Put lo w2 v w3 v') (h4 : w3.ownsRow lo T 1 v' (l.length + 1) (cellsOf (l.length * 1) f ++ cellsOf (1 * 1) (fun _ => u))) : SetsBy T w3 lo v' (l ++ [s]) := by
  obtain ⟨h1, g, h2, h3⟩ := h
  refine ⟨fun i => if i = l.length then u else f i, ?_, fun i => if i = l.length then gu else g i, ?_, ?_⟩
  · rw [List.length_append]
    have e : cellsOf (l.length * 1) f ++ cellsOf (1 * 1) (fun _ => u) = cellsOf ((l.length + 1) * 1) (fun i => if i = l.length then u else f i) := by
      rw [cellsOf_append]
      have : l.length * 1 + 1 * 1 = (l.length + 1) * 1 := by omega
      rw [this]
      refine cellsOf_congr (fun i hi => ?_)
      by_cases e : i = l.length
      · rw [if_neg (by omega), if_pos e]
      · rw [if_pos (by omega), if_neg e]
    rw [e] at h4
    exact .inl h4
  · intro i hi
    rw [List.length_append] at hi
    have hi' : i < l.length + 1 := hi
    rw [setAt_push l s hi']
    show Own w3 (if i = l.length then gu else g i) 2 (if i = l.length then u else f i) _ _ ∧ _
    by_cases e : i = l.length
    · simp only [if_pos e]
      refine ⟨hu.off hp.1 (fun h0 hh => ?_), fun h0 => ⟨by have := hgu h0; omega, fun hh => ?_⟩⟩
      · have := h1.lt gu hh.2.2
        have := hgu h0
        omega
      · rcases hp.2 gu hh with hh | hh
        · have := h1.lt gu hh.2.2
          have := hgu h0
          omega
        · have := hu.lt h0
          omega
    · simp only [if_neg e]
      have h5 := h2 i (by omega)
      refine ⟨(h5.1.ext hx).off hp.1 (fun h0 hh => (h5.2 h0).2 hh.2.2), fun h0 => ⟨(h5.2 h0).1, fun hh => ?_⟩⟩
      rcases hp.2 (g i) hh with hh | hh
      · exact (h5.2 h0).2 hh.2.2
      · have h6 := h5.1.lt h0
        have h7 := hx.size
        omega
  · intro i j hi hj hne
    rw [List.length_append] at hi hj
    have hi' : i < l.length + 1 := hi
    have hj' : j < l.length + 1 := hj
    rw [setAt_push l s hi', setAt_push l s hj']
    show _ → _ → (if i = l.length then gu else g i) ≠ (if j = l.length then gu else g j)
    by_cases e : i = l.length
    · have e2 : ¬ j = l.length := by omega
      simp only [if_pos e, if_neg e2]
      intro h0 h0' hh
      have h6 := (h2 j (by omega)).1.lt h0'
      have h7 := hgu h0
      omega
    · by_cases e2 : j = l.length
      · simp only [if_neg e, if_pos e2]
        intro h0 h0' hh
        have h6 := (h2 i (by omega)).1.lt h0
        have h7 := hgu h0'
        omega
      · simp only [if_neg e, if_neg e2]
        exact h3 i j (by omega) (by omega) hne
/-- the sets as they are handed on -/
theorem SetsBy.sets {T : Nat} {w : World} {lo : Nat} {v : Value} {l : List (List Sp)} (h : SetsBy T w lo v l) : OwnSets w lo w.heap.size v l := by
  obtain ⟨f, h1, g, h2, h3⟩ := h
  obtain ⟨g0, hg0, ho⟩ : ∃ g, (0 < l.length → v.ownBlock = some g ∧ lo ≤ g) ∧ Own w g 1 v l.length f := by
    rcases h1 with h1 | ⟨h1, _, ⟨A, e⟩, _⟩
    · exact Own.of_owned h1
    · exact ⟨0, fun h => absurd h (by omega), by rw [h1]; exact ⟨Nat.zero_le _, A, 0, e, Nat.le_refl _, fun h => absurd h (by omega)⟩⟩
  refine ⟨g0, f, g, ho, fun hn => ⟨(hg0 hn).2, ho.lt hn⟩, fun i hi => ⟨(h2 i hi).1, fun h0 => ⟨((h2 i hi).2 h0).1, (h2 i hi).1.lt h0, fun e => ?_⟩⟩, h3⟩
  have hn : 0 < l.length := by omega
  have h4 := ((h2 i hi).2 h0).2
  rw [e] at h4
  exact h4 (hg0 hn).1
/-- a network in new memory: the links' row may still grow -/
def NewNetL (TL : Nat) (n : Net) (w : World) (e : Ending) (w' : World) : Prop :=
  ∃ s k a b, e = .returned (.agg #[s, k]) ∧ Ext w w' ∧ w.heap.size ≤ a ∧ a ≤ b ∧ b ≤ w'.heap.size ∧ OwnSets w' a b s n.sets ∧ w'.ownsRow w.heap.size TL 4 k n.links.length (cellsOf (n.links.length * 4) (linkCell n.links)) ∧ ∀ g, k.ownBlock = some g → g < a
theorem ownNet_of {TL : Nat} {w : World} {lo a b : Nat} {s k : Value} {n : Net} (hs : OwnSets w a b s n.sets) (hk : w.ownsRow lo TL 4 k n.links.length (cellsOf (n.links.length * 4) (linkCell n.links))) (ha : lo ≤ a) (hb : b ≤ w.heap.size)
    (hg : ∀ g, k.ownBlock = some g → ¬ (a ≤ g ∧ g < b)) : OwnNet w lo w.heap.size (.agg #[s, k]) n := by
  obtain ⟨gk, h1, h2⟩ := Own.of_owned hk
  exact ⟨s, k, a, b, gk, rfl, ha, hb, hs, h2, fun hn => ⟨(h1 hn).2, h2.lt hn, hg gk (h1 hn).1⟩⟩
/-- a copy of a network under way: its own boxes, the links' row, the sets copied so far -/
def OwnSt (TL TS : Nat) (w : World) (go : Nat) (s0 k0 kv : Value) (n : Net) (l : List (List Sp)) (sv : Value) (wr : World) : Prop :=
  Ext w wr ∧ Boxed wr w.heap.size [s0, k0] ∧ Boxed wr (w.heap.size + 1) [.slice none 0 0, .slice none 0 0] ∧ Boxed wr go [sv, kv] ∧ w.heap.size + 1 < go ∧
    wr.ownsRow (w.heap.size + 2) TL 4 kv n.links.length (cellsOf (n.links.length * 4) (linkCell n.links)) ∧ (∀ g, kv.ownBlock = some g → g < go) ∧ SetsBy TS wr (go + 1) sv l
theorem OwnSt.push {TL TS TE b : Nat} {w wr w2 w3 : World} {go : Nat} {s0 k0 kv sv u v3 : Value} {n : Net} {l : List (List Sp)} {s : List Sp} {f : Nat → Value} (hx0 : Ext w wr) (hb : Boxed wr w.heap.size [s0, k0])
    (hrb : Boxed wr (w.heap.size + 1) [.slice none 0 0, .slice none 0 0]) (hob : Boxed wr go [sv, kv]) (hgo : w.heap.size + 1 < go) (hk : wr.ownsRow (w.heap.size + 2) TL 4 kv n.links.length (cellsOf (n.links.length * 4) (linkCell n.links)))
    (hkg : ∀ g, kv.ownBlock = some g → g < go) (hsf : SetsF TS wr (go + 1) sv l f) (hx : Ext wr w2) (hu : w2.ownsRow b TE 2 u s.length (cellsOf (s.length * 2) (spanCell s))) (hb2 : wr.heap.size ≤ b)
    (hp : Put (go + 1) w2 sv w3 v3) (h4 : w3.ownsRow (go + 1) TS 1 v3 (l.length + 1) (cellsOf (l.length * 1) f ++ cellsOf (1 * 1) (fun _ => u))) :
    OwnSt TL TS w go s0 k0 kv n (l ++ [s]) v3 (w3.setCell ⟨go, 0, none⟩ v3) := by
  obtain ⟨gu, hgu, hou⟩ := Own.of_owned hu
  have hgoz := hob.1
  have hss := hsf.push hx (fun h0 => by have := (hgu h0).2; omega) (by omega) hou hp h4
  have off : ∀ {k : Nat}, k ≤ go → ¬ (go + 1 ≤ k ∧ k < w2.heap.size ∧ sv.ownBlock = some k) := fun hk hh => by have := hh.1; omega
  have hx3 : Ext w w3 := hp.ext (hx0.trans hx) (by omega)
  refine ⟨hx3.setCell (by show _ ≤ go; omega) _, ((hb.ext hx).off hp.1 (off (by omega))).setOther (by show _ ≠ go; omega) _, ((hrb.ext hx).off hp.1 (off (by omega))).setOther (by show _ ≠ go; omega) _,
    ((hob.ext hx).off hp.1 (off (Nat.le_refl _))).set 0 v3 (by simp), hgo, ?_, hkg, ?_⟩
  · have h1 := ownsRow_off (row_ext hk hx) hp.1 (fun g hg => off (Nat.le_of_lt (hkg g hg)))
    exact ownsRow_off h1 (Off.setCell (S := fun k => k = go) (Off.refl _ _) (.inl rfl) _) (fun g hg => by have := hkg g hg; omega)
  · exact hss.off (Off.setCell (S := fun k => k = go) (Off.refl _ _) (.inl rfl) _) (fun k hk hh => by omega)
theorem OwnSt.done {TL TS : Nat} {w wr : World} {go : Nat} {s0 k0 kv sv : Value} {n : Net} (h : OwnSt TL TS w go s0 k0 kv n n.sets sv wr) :
    NewNetL TL n w (.returned (.agg #[sv, kv])) ((wr.setCell ⟨w.heap.size + 1, 0, none⟩ sv).setCell ⟨w.heap.size + 1, 1, none⟩ kv) := by
  obtain ⟨hx, hb, hrb, hob, hgo, hk, hkg, hs⟩ := h
  have hz : ((wr.setCell ⟨w.heap.size + 1, 0, none⟩ sv).setCell ⟨w.heap.size + 1, 1, none⟩ kv).heap.size = wr.heap.size := by simp [World.setCell]
  have hgoz := hob.1
  refine ⟨sv, kv, go + 1, wr.heap.size, rfl, (hx.setCell (by show _ ≤ w.heap.size + 1; omega) _).setCell (by show _ ≤ w.heap.size + 1; omega) _, by omega, by omega, by omega, ?_, ?_, fun g hg => by have := hkg g hg; omega⟩
  · exact (hs.sets.setOther (.inl (by show w.heap.size + 1 < _; omega)) _).setOther (.inl (by show w.heap.size + 1 < _; omega)) _
  · have h1 : Off (fun k => k = w.heap.size + 1) wr ((wr.setCell ⟨w.heap.size + 1, 0, none⟩ sv).setCell ⟨w.heap.size + 1, 1, none⟩ kv) :=
      Off.setCell (S := fun k => k = w.heap.size + 1) (p := ⟨w.heap.size + 1, 1, none⟩) (Off.setCell (S := fun k => k = w.heap.size + 1) (p := ⟨w.heap.size + 1, 0, none⟩) (Off.refl _ _) (.inl rfl) _) (.inl rfl) _
    exact ownsRow_mono (ownsRow_off hk h1 (fun g hg hh => by have := (hk.lt g hg).1; omega)) (by omega)
theorem take_push (l : List (List Sp)) {j : Nat} (h : j < l.length) : l.take (j + 1) = l.take j ++ [setAt l j] := by
  rw [List.take_succ_eq_append_getElem h]
  unfold setAt
  rw [List.getD_eq_getElem?_getD, List.getElem?_eq_getElem h]
  rfl

theorem lkAt_push (l : List Lk) (x : Lk) {i : Nat} (hi : i < l.length + 1) : lkAt (l ++ [x]) i = if i = l.length then x else lkAt l i := by
  unfold lkAt
  rw [List.getD_eq_getElem?_getD, List.getD_eq_getElem?_getD]
  by_cases h2 : i = l.length
  · subst h2; simp
  · rw [if_neg h2, List.getElem?_append_left (by omega)]
theorem linkCells_push (l : List Lk) (x : Lk) : cellsOf (l.length * 4) (linkCell l) ++ cellsOf (1 * 4) (linkCell [x]) = cellsOf ((l ++ [x]).length * 4) (linkCell (l ++ [x])) := by
  rw [cellsOf_append, List.length_append]
  have e : l.length * 4 + 1 * 4 = (l.length + [x].length) * 4 := by simp; omega
  rw [e]
  refine cellsOf_congr (fun i hi => ?_)
  have hl : [x].length = 1 := rfl
  rw [hl] at hi
  show (if i < l.length * 4 then linkCell l i else linkCell [x] (i - l.length * 4)) = linkCell (l ++ [x]) i
  by_cases h : i < l.length * 4
  · rw [if_pos h]
    unfold linkCell
    rw [lkAt_push l x (show i / 4 < l.length + 1 by omega), if_neg (show ¬ i / 4 = l.length by omega)]
  · rw [if_neg h]
    have e1 : (i - l.length * 4) % 4 = i % 4 := by omega
    have e2 : (i - l.length * 4) / 4 = 0 := by omega
    have e3 : i / 4 = l.length := by omega
    unfold linkCell
    rw [e1, e2, lkAt_push l x (show i / 4 < l.length + 1 by omega), if_pos e3]
    rfl
/-- one more link -/
theorem addNet {TL base a b : Nat} {w w1 w2 : World} {s k k2 : Value} {sets : List (List Sp)} {links : List Lk} {l : Lk} (hs : OwnSets w a b s sets) (hk : w.ownsRow base TL 4 k links.length (cellsOf (links.length * 4) (linkCell links)))
    (hkg : ∀ g, k.ownBlock = some g → ¬ (a ≤ g ∧ g < b)) (hb : b ≤ w.heap.size) (hx : Ext w w1) (hp : Put base w1 k w2 k2) (h4 : w2.ownsRow base TL 4 k2 (links.length + 1) (cellsOf (links.length * 4) (linkCell links) ++ cellsOf (1 * 4) (linkCell [l]))) :
    OwnSets w2 a b s sets ∧ w2.ownsRow base TL 4 k2 (links ++ [l]).length (cellsOf ((links ++ [l]).length * 4) (linkCell (links ++ [l]))) ∧ ∀ g, k2.ownBlock = some g → ¬ (a ≤ g ∧ g < b) ∧ (g < w.heap.size ∨ w1.heap.size ≤ g) := by
  refine ⟨(hs.ext hx).off hp.1 (fun k h1 h2 h3 => hkg k h3.2.2 ⟨h1, h2⟩), ?_, fun g hg => ?_⟩
  · rw [← linkCells_push]
    simpa using h4
  · have hz := hx.size
    rcases hp.2 g hg with h | h
    · exact ⟨hkg g h.2.2, .inl (hk.lt g h.2.2).2⟩
    · exact ⟨fun hh => by omega, .inr h⟩
theorem setAt_set (l : List (List Sp)) (v : Nat) (x : List Sp) {i : Nat} (hv : v < l.length) : setAt (l.set v x) i = if i = v then x else setAt l i := by
  unfold setAt
  rw [List.getD_eq_getElem?_getD, List.getD_eq_getElem?_getD, List.getElem?_set]
  by_cases e : v = i
  · subst e; simp [hv]
  · rw [if_neg e, if_neg (fun h => e h.symm)]
/-- one set put in another's place -/
theorem OwnSets.put {w w2 : World} {lo b c v gu : Nat} {A : Option Addr} {u : Value} {l : List (List Sp)} {x : List Sp} (h : OwnSets w lo b (.slice A l.length c) l) (hv : v < l.length) (hx : Ext w w2) (hb : b ≤ w.heap.size)
    (hu : Own w2 gu 2 u x.length (spanCell x)) (hgu : 0 < x.length → w.heap.size ≤ gu) :
    ∃ g0 off, A = some ⟨g0, off, none⟩ ∧ lo ≤ g0 ∧ g0 < b ∧ (∃ z, w2.cell? ⟨g0, off + v, none⟩ = some z) ∧ w2.frozen? ⟨g0, off + v, none⟩ = false ∧ OwnSets (w2.setCell ⟨g0, off + v, none⟩ u) lo w2.heap.size (.slice A l.length c) (l.set v x) := by
  obtain ⟨g0, f, g, h1, h2, h3, h4⟩ := h
  have hn : 0 < l.length := by omega
  obtain ⟨off, rfl, hlt, hc⟩ := h1.at_ hn
  obtain ⟨hl0, hg0⟩ := h2 hn
  have hxs := hx.size
  have h1x := h1.ext hx
  obtain ⟨off', hA', _, hc2⟩ := h1x.at_ hn
  injection hA' with hA'
  injection hA' with _ hA'
  subst hA'
  refine ⟨g0, off, rfl, hl0, hg0, ⟨_, (hc2 v (by omega)).1⟩, (hc2 v (by omega)).2, g0, fun i => if i = v then u else f i, fun i => if i = v then gu else g i, ?_, ?_, ?_, ?_⟩
  · have := h1x.set v u (by omega)
    rw [List.length_set]
    exact this
  · exact fun _ => ⟨hl0, by omega⟩
  · intro i hi
    rw [List.length_set] at hi
    rw [setAt_set l v x hv]
    by_cases e : i = v
    · simp only [if_pos e]
      exact ⟨hu.setOther (fun h0 => by have := hgu h0; show _ ≠ g0; omega) _, fun h0 => ⟨by have := hgu h0; omega, hu.lt h0, by have := hgu h0; omega⟩⟩
    · simp only [if_neg e]
      have h5 := h3 i hi
      exact ⟨(h5.1.ext hx).setOther (fun h0 => (h5.2 h0).2.2) _, fun h0 => ⟨(h5.2 h0).1, by have := (h5.2 h0).2.1; omega, (h5.2 h0).2.2⟩⟩
  · intro i j hi hj hne
    rw [List.length_set] at hi hj
    rw [setAt_set l v x hv, setAt_set l v x hv]
    show _ → _ → (if i = v then gu else g i) ≠ (if j = v then gu else g j)
    by_cases e : i = v
    · have e2 : ¬ j = v := by omega
      simp only [if_pos e, if_neg e2]
      intro h0 h0'
      have h6 := ((h3 j hj).2 h0').2.1
      have h7 := hgu h0
      omega
    · by_cases e2 : j = v
      · simp only [if_neg e, if_pos e2]
        intro h0 h0'
        have h6 := ((h3 i hi).2 h0).2.1
        have h7 := hgu h0'
        omega
      · simp only [if_neg e, if_neg e2]
        exact h4 i j hi hj hne
theorem Boxed.own {w : World} {g sz : Nat} {cs : List Value} {f : Nat → Value} (h : Boxed w g cs) (hl : cs.length = sz) (hf : ∀ i, i < sz → cs[i]? = some (f i)) : Own w g sz (.slice (some ⟨g, 0, none⟩) 1 1) 1 f :=
  ⟨by unfold maxLen; omega, _, _, rfl, Nat.le_refl _, fun _ => ⟨h.1, 0, rfl, fun i hi => by rw [Nat.zero_add]; exact h.2 i _ (hf i (by omega))⟩⟩
theorem span_cells (a b : Int) : ∀ i, i < 2 → [Value.int .i64 a, .int .i64 b][i]? = some (spanCell [⟨a, b⟩] i)
  | 0, _ => rfl
  | 1, _ => rfl
  | i + 2, h => absurd h (by omega)
/-- what is returned: a network in new memory and a code -/
def NewNet2 (m : Net) (c : Int) (w : World) (e : Ending) (w' : World) : Prop := ∃ s k, e = .returned (.tuple #[.agg #[s, k], .int .i64 c]) ∧ Ext w w' ∧ OwnNet w' w.heap.size w'.heap.size (.agg #[s, k]) m
def noNet : Net := ⟨[], []⟩
theorem OwnSets.nil (w : World) (lo hi : Nat) : OwnSets w lo hi (.slice none 0 0) [] :=
  ⟨0, fun _ => .bool true, fun _ => 0, ⟨Nat.zero_le _, none, 0, rfl, Nat.le_refl _, fun h => absurd h (by simp)⟩, fun h => absurd h (by simp), fun i hi => absurd hi (by simp), fun i j hi => absurd hi (by simp)⟩
theorem NewNet2.nil (c : Int) {w w' : World} (h : Ext w w') : NewNet2 noNet c w (.returned (.tuple #[.agg #[.slice none 0 0, .slice none 0 0], .int .i64 c])) w' :=
  ⟨_, _, rfl, h, _, _, w.heap.size, w'.heap.size, 0, rfl, Nat.le_refl _, Nat.le_refl _, OwnSets.nil _ _ _, ⟨Nat.zero_le _, none, 0, rfl, Nat.le_refl _, fun h => absurd h (by simp [noNet])⟩, fun h => absurd h (by simp [noNet])⟩
end Go.Proofs.YtbddkmlfjghllaaGreatDoor

/- The source of draws in memory: a block with the code, a place and a seed; worlds in which that block alone has turned. No program in sight. -/
namespace Go.Proofs.YtbddkmlfjghllaaGreatDoor
set_option linter.unusedVariables false
set_option linter.unusedSimpArgs false
open Go.RowKit

/-- a row of bytes -/
def Bytes (w : World) (lo hi : Nat) (v : Value) (n : Nat) : Prop := n ≤ 4096 ∧ ∃ f : Nat → Int, Row w lo hi 1 v n (fun i => .int .u8 (f i)) ∧ ∀ i, i < n → 0 ≤ f i ∧ f i ≤ 255
theorem Bytes.ext {w w' : World} {lo hi n : Nat} {v : Value} (h : Bytes w lo hi v n) (hx : Ext w w') (hh : hi ≤ w.heap.size) : Bytes w' lo hi v n := by
  obtain ⟨h0, f, h1, h2⟩ := h
  exact ⟨h0, f, h1.ext hx hh, h2⟩
theorem Bytes.off {S : Nat → Prop} {w w' : World} {lo hi n : Nat} {v : Value} (h : Bytes w lo hi v n) (hx : Off S w w') (hs : ∀ k, lo ≤ k → k < hi → ¬ S k) (hh : hi ≤ w.heap.size) : Bytes w' lo hi v n := by
  obtain ⟨h0, f, h1, h2⟩ := h
  exact ⟨h0, f, h1.off hx hs hh, h2⟩
theorem Bytes.len {w : World} {lo hi n : Nat} {v : Value} (h : Bytes w lo hi v n) : ∃ A c, v = .slice A n c ∧ n ≤ c := by
  obtain ⟨h0, f, ⟨_, A, c, e, hc, _⟩, _⟩ := h
  exact ⟨A, c, e, hc⟩
theorem Bytes.at_ {w : World} {lo hi n c i : Nat} {A : Option Addr} (h : Bytes w lo hi (.slice A n c) n) (hi' : i < n) : ∃ b off x, A = some ⟨b, off, none⟩ ∧ b < hi ∧ w.cell? ⟨b, off + i, none⟩ = some (.int .u8 x) ∧ 0 ≤ x ∧ x ≤ 255 := by
  obtain ⟨h0, f, ⟨_, A', c', e, hc, hr⟩, hf⟩ := h
  injection e with e1 e2 e3
  obtain ⟨b, off, hA, h1, h2, h3⟩ := hr (by omega)
  exact ⟨b, off, f i, by rw [e1, hA], h2, h3 i (by omega), hf i hi'⟩

/-- the source of draws -/
structure Src (b0 g : Nat) (cv : Value) (cn : Nat) (w : World) : Prop where
  lo : b0 ≤ g
  code : Bytes w 0 b0 cv cn
  box : ∃ (j : Nat) (seed : Int), Boxed w g [cv, .int .i64 j, .int .i64 seed] ∧ j ≤ cn ∧ 0 ≤ seed ∧ seed ≤ 2147483646
section
variable {b0 g cn : Nat} {cv : Value} {w w' : World}
theorem Src.lt (h : Src b0 g cv cn w) : g < w.heap.size := by
  obtain ⟨j, s, h1, _⟩ := h.box
  exact h1.1
theorem Src.ext (h : Src b0 g cv cn w) (hx : Ext w w') : Src b0 g cv cn w' := by
  have hl := h.lt
  have h0 := h.lo
  obtain ⟨j, s, h1, h2⟩ := h.box
  exact ⟨h.lo, h.code.ext hx (by omega), j, s, h1.ext hx, h2⟩
theorem Src.off {S : Nat → Prop} (h : Src b0 g cv cn w) (hx : Off S w w') (hs : ∀ k, S k → g < k) : Src b0 g cv cn w' := by
  have hl := h.lt
  have h0 := h.lo
  obtain ⟨j, s, h1, h2⟩ := h.box
  exact ⟨h.lo, h.code.off hx (fun k _ hk hh => by have := hs k hh; omega) (by omega), j, s, h1.off hx (fun hh => by have := hs g hh; omega), h2⟩
end
/-- the one block that draws turn -/
def One (g k : Nat) : Prop := k = g
/-- what a draw leaves: its source alone has turned -/
structure Drw (b0 g : Nat) (cv : Value) (cn : Nat) (w w' : World) : Prop where
  off : Off (One g) w w'
  src : Src b0 g cv cn w'
section
variable {b0 g cn : Nat} {cv : Value} {w w' w'' : World}
theorem Drw.refl (h : Src b0 g cv cn w) : Drw b0 g cv cn w w := ⟨Off.refl _ _, h⟩
theorem Drw.trans (h : Drw b0 g cv cn w w') (k : Drw b0 g cv cn w' w'') : Drw b0 g cv cn w w'' := ⟨h.off.trans k.off, k.src⟩
theorem Drw.pre {a : World} (hx : Ext a w) (h : Drw b0 g cv cn w w') : Drw b0 g cv cn a w' := ⟨(Off.of_ext hx).trans h.off, h.src⟩
theorem Drw.ext (h : Drw b0 g cv cn w w') (hx : Ext w' w'') : Drw b0 g cv cn w w'' := ⟨h.off.trans (Off.of_ext hx), h.src.ext hx⟩
theorem Drw.size (h : Drw b0 g cv cn w w') : w.heap.size ≤ w'.heap.size := h.off.size
theorem Drw.alloc (h : Drw b0 g cv cn w w') (o : Obj) : Drw b0 g cv cn w (w'.alloc o) := h.ext ((Ext.refl _).alloc o)
theorem Drw.drew (h : Drw b0 g cv cn w w') : Drw b0 g cv cn w w'.drew := h.ext (Ext.refl _).drew
theorem Drw.drewN (h : Drw b0 g cv cn w w') (n : Nat) : Drw b0 g cv cn w (w'.drewN n) := h.ext ((Ext.refl _).drewN n)
theorem Drw.setCell (h : Drw b0 g cv cn w w') {p : Addr} (hp : w.heap.size ≤ p.block) (hg : g < p.block) (u : Value) : Drw b0 g cv cn w (w'.setCell p u) :=
  ⟨h.off.setCell (.inr hp) u, h.src.off (S := fun k => k = p.block) (Off.setCell (S := fun k => k = p.block) (Off.refl _ _) (.inl rfl) u) (fun k hk => by omega)⟩
theorem Drw.cell (h : Drw b0 g cv cn w w') {b o : Nat} (hb : b < w.heap.size) (hg : b ≠ g) : w'.cell? ⟨b, o, none⟩ = w.cell? ⟨b, o, none⟩ := h.off.cell (p := ⟨b, o, none⟩) hb hg
theorem Drw.frozen (h : Drw b0 g cv cn w w') {b o : Nat} (hb : b < w.heap.size) (hg : b ≠ g) : w'.frozen? ⟨b, o, none⟩ = w.frozen? ⟨b, o, none⟩ := h.off.frozen (p := ⟨b, o, none⟩) hb hg
/-- what lies apart from the source is kept -/
theorem Boxed.drw {b : Nat} {cs : List Value} (h : Boxed w b cs) (hx : Drw b0 g cv cn w w') (hb : b ≠ g) : Boxed w' b cs := h.off hx.off hb
theorem Drw.and_cell {b i : Nat} {c : Value} {r : Prop} (hb : b < w.heap.size) (hg : b ≠ g) (hc : w.cell? ⟨b, i, none⟩ = some c) (hx : Drw b0 g cv cn w w') (hr : r) : w'.cell? ⟨b, i, none⟩ = some c ∧ r := ⟨(hx.cell hb hg).trans hc, hr⟩
/-- once the source is new, nothing old has turned -/
theorem Drw.old {a : World} (h : Drw b0 g cv cn w w') (ha : Ext a w) (hg : a.heap.size ≤ g) : Ext a w' := ha.off h.off (fun k hk hh => by have e : k = g := hh; omega)
end
theorem Off.news {K K1 : Nat → Prop} {a b c : World} (h : Off K a b) (h1 : Off K1 b c) (hk : ∀ k, K1 k → K k ∨ a.heap.size ≤ k) : Off K a c :=
  ⟨h1.os.trans h.os, h1.tape.trans h.tape, h1.output.trans h.output, Nat.le_trans h.size h1.size, fun i hi hs => (h1.block i (Nat.lt_of_lt_of_le hi h.size) (fun hh => by
    rcases hk i hh with e | e
    · exact hs e
    · omega)).trans (h.block i hi hs)⟩
theorem Drw.put {b0 g cn b : Nat} {cv v v' : Value} {w w3 w4 : World} (h : Drw b0 g cv cn w w3) (hg : g < w.heap.size) (hp : Put b w3 v w4 v') (hb : w.heap.size ≤ b) : Drw b0 g cv cn w w4 :=
  ⟨h.off.news hp.1 (fun k hk => .inr (by have := hk.1; omega)), h.src.off hp.1 (fun k hk => by have := hk.1; omega)⟩
/-- a row of the call's own is kept by draws from an older source -/
theorem ownsRow_drw {b0 g cn b n sz : Nat} {e : TypeId} {cv v : Value} {xs : List Value} {w w' : World} (h : w.ownsRow b e sz v n xs) (hx : Drw b0 g cv cn w w') (hg : g < b) : w'.ownsRow b e sz v n xs :=
  ownsRow_off h hx.off (fun k hk hh => by have e1 : k = g := hh; have := (h.lt k hk).1; omega)
/-- numbers in a box -/
theorem box_ints {W : World} {gb : Nat} (l : List Int) (h : Boxed W gb (l.map (Value.int .i64))) (hl : l.length ≤ 4096) : Ints W 0 W.heap.size (.slice (some ⟨gb, 0, none⟩) l.length l.length) l :=
  ⟨by unfold maxLen; omega, _, _, rfl, Nat.le_refl _, fun _ => ⟨gb, 0, rfl, Nat.zero_le _, h.1, fun i hi => by
    have hi' : i < l.length := by omega
    rw [Nat.zero_add]
    refine (h.2 i _ ?_).1
    rw [List.getElem?_map, List.getElem?_eq_getElem hi']
    unfold intCell inAt
    rw [List.getD_eq_getElem?_getD, List.getElem?_eq_getElem hi']
    rfl⟩⟩
theorem box_pick {b0 g cn : Nat} {cv : Value} {W : World} {gb : Nat} (l : List Int) (h : Boxed W gb (l.map (Value.int .i64))) (hl : l.length ≤ 4096) (hg : gb ≠ g) :
    Ints W 0 W.heap.size (.slice (some ⟨gb, 0, none⟩) l.length l.length) l ∧ ∀ w', Drw b0 g cv cn W w' → Ints w' 0 w'.heap.size (.slice (some ⟨gb, 0, none⟩) l.length l.length) l :=
  ⟨box_ints l h hl, fun _ hd => box_ints l (h.drw hd hg) hl⟩
/-- what a draw of spans returns: a row of its own -/
def DrSpans (b0 g : Nat) (cv : Value) (cn T K : Nat) (P : Sp → Prop) (w : World) (e : Ending) (w' : World) : Prop :=
  ∃ v l, e = .returned v ∧ Drw b0 g cv cn w w' ∧ l.length ≤ K ∧ (∀ i, i < l.length → P (spAt l i)) ∧ w'.ownsRow w.heap.size T 2 v l.length (cellsOf (l.length * 2) (spanCell l))
/-- .. of numbers -/
def DrInts (b0 g : Nat) (cv : Value) (cn T : Nat) (P : List Int → Prop) (w : World) (e : Ending) (w' : World) : Prop :=
  ∃ v l, e = .returned v ∧ Drw b0 g cv cn w w' ∧ P l ∧ w'.ownsRow w.heap.size T 1 v l.length (cellsOf (l.length * 1) (intCell l))
/-- what a draw of a number returns -/
def DrNum (b0 g : Nat) (cv : Value) (cn : Nat) (P : Int → Prop) (w : World) (e : Ending) (w' : World) : Prop := ∃ r : Int, e = .returned (.int .i64 r) ∧ P r ∧ Drw b0 g cv cn w w'
/-- a number below n, or 0 -/
def Below' (n r : Int) : Prop := 0 ≤ r ∧ (1 < n → r < n) ∧ (n ≤ 1 → r = 0)
theorem Below'.nat {m q : Nat} (hb : Below' (m : Int) (q : Int)) (h : 0 < m) : q < m := by
  obtain ⟨h0, h1, h2⟩ := hb
  rcases Nat.lt_or_ge 1 m with h3 | h3
  · have := h1 (by omega); omega
  · have := h2 (by omega); omega
end Go.Proofs.YtbddkmlfjghllaaGreatDoor

/- A code as it came in: a row of bytes. (Taken out of XYc.) -/
namespace Go.Proofs.YtbddkmlfjghllaaGreatDoor
set_option linter.unusedVariables false
set_option linter.unusedSimpArgs false
open Go.RowKit

/-- a code as it came in -/
def Byts (w : World) (v : Value) (n : Nat) : Prop := ∃ f : Nat → Int, Row w 0 w.heap.size 1 v n (fun i => .int .u8 (f i)) ∧ ∀ i, i < n → 0 ≤ f i ∧ f i ≤ 255
theorem Byts.few {w : World} {v : Value} {n : Nat} (h : Byts w v n) (hn : n ≤ 4096) : Bytes w 0 w.heap.size v n := by
  obtain ⟨f, h1, h2⟩ := h
  exact ⟨hn, f, h1, h2⟩
theorem Byts.len {w : World} {v : Value} {n : Nat} (h : Byts w v n) : ∃ A c, v = .slice A n c := by
  obtain ⟨f, ⟨_, A, c, e, _⟩, _⟩ := h
  exact ⟨A, c, e⟩
theorem Bytes.up {w w' : World} {n : Nat} {v : Value} (h : Bytes w 0 w.heap.size v n) (hx : Ext w w') : Bytes w' 0 w'.heap.size v n := by
  obtain ⟨h0, f, h1, h2⟩ := h.ext hx (Nat.le_refl _)
  exact ⟨h0, f, h1.mono (Nat.le_refl _) hx.size, h2⟩
end Go.Proofs.YtbddkmlfjghllaaGreatDoor
