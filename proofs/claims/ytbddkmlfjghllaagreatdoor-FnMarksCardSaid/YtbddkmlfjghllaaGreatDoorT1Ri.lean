/- A law: a region that draws its order, by an invariant on what has come up. -/
import Derived.Orders
import Derived.Deep.RegionHeld3
namespace Go.Proofs.YtbddkmlfjghllaaGreatDoor
set_option linter.unusedVariables false
set_option linter.unusedSimpArgs false
open Go

theorem filter_less {p q : Nat → Bool} : ∀ (l : List Nat), (∀ j, q j = true → p j = true) → (∃ i, i ∈ l ∧ p i = true ∧ q i = false) → (l.filter q).length < (l.filter p).length
  | [], _, h => by obtain ⟨i, hi, _⟩ := h; simp at hi
  | x :: l, hpq, h => by
    have hle : ∀ (l : List Nat), (l.filter q).length ≤ (l.filter p).length := by
      intro l
      induction l with
      | nil => simp
      | cons y t ih =>
        by_cases hq : q y = true
        · simp [List.filter_cons, hq, hpq y hq]; exact ih
        · have hq' : q y = false := by simpa using hq
          by_cases hp : p y = true
          · simp [List.filter_cons, hq', hp]; omega
          · have hp' : p y = false := by simpa using hp
            simp [List.filter_cons, hq', hp']; exact ih
    by_cases e : p x = true ∧ q x = false
    · simp [List.filter_cons, e.1, e.2]
      have := hle l
      omega
    · obtain ⟨i, hi, h1, h2⟩ := h
      have hi' : i ∈ l := by
        rcases List.mem_cons.1 hi with rfl | hi
        · exact absurd ⟨h1, h2⟩ e
        · exact hi
      have ih := filter_less l hpq ⟨i, hi', h1, h2⟩
      by_cases hq : q x = true
      · simp [List.filter_cons, hq, hpq x hq]; exact ih
      · have hq' : q x = false := by simpa using hq
        have hp' : p x = false := by
          by_cases hp : p x = true
          · exact absurd ⟨hp, hq'⟩ e
          · simpa using hp
        simp [List.filter_cons, hq', hp']; exact ih
/-- how many operations have not come up -/
def unl (ops : Array Oper) (listed : Array Bool) : Nat := ((List.range ops.size).filter (fun i => !listed.getD i true)).length
theorem wpAny_inv {P : Program} {md : Region.Mode} {ops : Array Oper} {Q : Exit → Act → World → Prop} (I : Array Bool → Act → World → Prop)
    (hstep : ∀ listed a w i, I listed a w → i ∈ Region.ready md ops listed → wpOp P ops Q i (fun a' w' => I (listed.setIfInBounds i true) a' w') a w)
    (hend : ∀ listed a w, I listed a w → Region.ready md ops listed = [] → Q .normal a w) :
    ∀ (fuel : Nat) (listed : Array Bool) (a : Act) (w : World), listed.size = ops.size → unl ops listed ≤ fuel → I listed a w → wpAny P md ops Q fuel listed a w := by
  have hin : ∀ {listed : Array Bool} {i : Nat}, i ∈ Region.ready md ops listed → i < ops.size ∧ listed.getD i true = false := fun {listed i} hi => by
    obtain ⟨h1, o, ho, _⟩ := mem_ready.1 hi
    exact ⟨(Array.getElem?_eq_some_iff.1 ho).1, h1⟩
  intro fuel
  induction fuel with
  | zero =>
    intro listed a w hsz hn hI
    have hr : Region.ready md ops listed = [] := by
      refine List.eq_nil_iff_forall_not_mem.2 (fun i hi => ?_)
      obtain ⟨h1, h2⟩ := hin hi
      have : i ∈ (List.range ops.size).filter (fun i => !listed.getD i true) := List.mem_filter.2 ⟨List.mem_range.2 h1, by simp only [h2]; rfl⟩
      have hl : ((List.range ops.size).filter (fun i => !listed.getD i true)) = [] := List.eq_nil_of_length_eq_zero (by unfold unl at hn; omega)
      rw [hl] at this
      simp at this
    exact ⟨hr, hend _ _ _ hI hr⟩
  | succ fuel ih =>
    intro listed a w hsz hn hI
    refine ⟨fun hr => hend _ _ _ hI hr, fun i hi => wpOp_mono (fun a' w' hI' => ih _ a' w' (by simpa using hsz) ?_ hI') (hstep listed a w i hI hi)⟩
    obtain ⟨h1, h2⟩ := hin hi
    have hb : i < listed.size := by omega
    have : unl ops (listed.setIfInBounds i true) < unl ops listed := by
      refine filter_less _ (fun j hj => ?_) ⟨i, List.mem_range.2 h1, by simp only [h2]; rfl, ?_⟩
      · by_cases e : j = i
        · subst e; simp only [h2]; rfl
        · rw [getD_set_ne true (Ne.symm e)] at hj
          exact hj
      · simp [hb]
    omega
/-- what has come up has come up behind all that it waits for -/
def Closed (md : Region.Mode) (ops : Array Oper) (listed : Array Bool) : Prop := ∀ j o, ops[j]? = some o → listed.getD j false = true → ∀ e ∈ o.after, Region.binds md e = true → listed.getD e.on false = true
theorem set_get {listed : Array Bool} {i j : Nat} (h : (listed.setIfInBounds i true).getD j false = true) : j = i ∨ listed.getD j false = true := by
  by_cases e : j = i
  · exact .inl e
  · refine .inr ?_
    simp only [Array.getD_eq_getD_getElem?] at h ⊢
    rw [Array.getElem?_setIfInBounds_ne (by omega)] at h
    exact h
theorem set_old {listed : Array Bool} {i j : Nat} (h : listed.getD j false = true) : (listed.setIfInBounds i true).getD j false = true := getD_set_true h
theorem get_one {listed : Array Bool} {i : Nat} (h : listed.getD i true = false) : (listed.setIfInBounds i true).getD i false = true ∧ listed.getD i false = false := by
  simp only [Array.getD_eq_getD_getElem?] at h ⊢
  rcases Nat.lt_or_ge i listed.size with h' | h'
  · simp [h'] at h ⊢
    exact h
  · simp [Array.getElem?_eq_none h'] at h
theorem get_false {listed : Array Bool} {i j : Nat} (h : listed.getD j false = false) (hne : j ≠ i) : (listed.setIfInBounds i true).getD j false = false := by
  cases h2 : (listed.setIfInBounds i true).getD j false with
  | false => rfl
  | true =>
    rcases set_get h2 with e | e
    · exact absurd e hne
    · rw [h] at e; cases e
/-- each waits for what stands above it alone -/
def lowB (ops : Array Oper) : Bool := (List.range ops.size).all (fun j => ((ops[j]?).map (fun o => o.after.all (fun e => decide (e.on < j)))).getD true)
theorem low_done {md : Region.Mode} {ops : Array Oper} (h : lowB ops = true) {listed : Array Bool} (hsz : listed.size = ops.size) (hr : Region.ready md ops listed = []) : ∀ i, i < ops.size → listed.getD i false = true := by
  intro i
  induction i using Nat.strongRecOn with
  | _ i ih =>
    intro hi
    cases hl : listed.getD i false with
    | true => rfl
    | false =>
      have hmem : i ∈ Region.ready md ops listed := by
        refine mem_ready.2 ⟨?_, ops[i], by simp [hi], fun e he _ => ?_⟩
        · simp only [Array.getD_eq_getD_getElem?] at hl ⊢
          have : i < listed.size := by omega
          simp [this] at hl ⊢
          exact hl
        · have h1 := List.all_eq_true.1 h i (List.mem_range.2 hi)
          simp only [Array.getElem?_eq_getElem hi, Option.map_some, Option.getD_some] at h1
          have h2 := Array.all_eq_true_iff_forall_mem.1 h1 e he
          have h3 : e.on < i := by simpa using h2
          exact ih e.on h3 (by omega)
      rw [hr] at hmem
      simp at hmem
/-- A REGION BY AN INVARIANT: I holds at the start; each operation that may come up keeps it; where none is left, it gives what follows. (I's first argument is the frame at the start.) -/
theorem wp_region_inv {P : Program} {id : Nat} {ops : Array Oper} {Q : Exit → Act → World → Prop} {a : Act} {w : World} (hm : P.follows .mixedOrders = true) (I : Act → Array Bool → Act → World → Prop)
    (h0 : I a (Array.replicate ops.size false) a w.drew)
    (hstep : ∀ listed a1 w1 i, Closed .any ops listed → I a listed a1 w1 → i ∈ Region.ready .any ops listed → wpOp P ops Q i (fun a' w' => I a (listed.setIfInBounds i true) a' w') a1 w1)
    (hend : ∀ listed a1 w1, Closed .any ops listed → (∀ i, i < ops.size → listed.getD i false = true) → I a listed a1 w1 → Q .normal a1 w1) (hlow : lowB ops = true) : (Code.region id ops true).wp P Q a w := by
  refine wp_region_any hm (wpAny_inv (fun listed a1 w1 => listed.size = ops.size ∧ Closed .any ops listed ∧ I a listed a1 w1) (fun listed a1 w1 i hI hi => ?_) (fun listed a1 w1 hI hr => hend _ _ _ hI.2.1 (low_done hlow hI.1 hr) hI.2.2) ops.size _ a _ (by simp) (by
    refine Nat.le_trans (List.length_filter_le _ _) ?_
    simp) ⟨by simp, fun j o _ hj => ?_, h0⟩)
  · refine wpOp_mono (fun a' w' hI' => ⟨by simpa using hI.1, fun j o ho hj e he hb => ?_, hI'⟩) (hstep listed a1 w1 i hI.2.1 hI.2.2 hi)
    rcases set_get hj with rfl | hj'
    · obtain ⟨_, o', ho', hall⟩ := mem_ready.1 hi
      rw [ho] at ho'
      injection ho' with ho'
      subst ho'
      exact set_old (hall e he hb)
    · exact set_old (hI.2.1 j o ho hj' e he hb)
  · simp only [Array.getD_eq_getD_getElem?] at hj
    rcases Nat.lt_or_ge j ops.size with h' | h'
    · simp [h'] at hj
    · simp [Array.getElem?_eq_none, h'] at hj
/-- .. the frame at the start as a letter: Φ says what is needed of it -/
theorem wp_region_inv2 {P : Program} {id : Nat} {ops : Array Oper} {Q : Exit → Act → World → Prop} {a : Act} {w : World} (hm : P.follows .mixedOrders = true) (hlow : lowB ops = true) (Φ : Act → Prop) (hΦ : Φ a) (I : Act → Array Bool → Act → World → Prop)
    (h0 : ∀ a0, Φ a0 → I a0 (Array.replicate ops.size false) a0 w.drew)
    (hstep : ∀ a0 listed a1 w1 i, Φ a0 → Closed .any ops listed → I a0 listed a1 w1 → i ∈ Region.ready .any ops listed → wpOp P ops Q i (fun a' w' => I a0 (listed.setIfInBounds i true) a' w') a1 w1)
    (hend : ∀ listed a1 w1, Closed .any ops listed → (∀ i, i < ops.size → listed.getD i false = true) → I a listed a1 w1 → Q .normal a1 w1) : (Code.region id ops true).wp P Q a w :=
  wp_region_inv hm I (h0 a hΦ) (fun listed a1 w1 i hC hI hi => hstep a listed a1 w1 i hΦ hC hI hi) hend hlow
/-- a frame like another but for the slots lo .. hi -/
def LikeA (lo hi : Nat) (a0 a1 : Act) : Prop := a1.defers = a0.defers ∧ a1.tmps.size = a0.tmps.size ∧ ∀ k, ¬ (lo ≤ k ∧ k ≤ hi) → a1.tmps[k]? = a0.tmps[k]?
theorem LikeA.refl (lo hi : Nat) (a : Act) : LikeA lo hi a a := ⟨rfl, rfl, fun _ _ => rfl⟩
theorem LikeA.eval {lo hi k : Nat} {a0 a1 : Act} (h : LikeA lo hi a0 a1) (hk : ¬ (lo ≤ k ∧ k ≤ hi)) : a1.eval (.tmp k) = a0.eval (.tmp k) := by
  simp only [Act.eval, Array.getD_eq_getD_getElem?]
  rw [h.2.2 k hk]
theorem eval_get (a : Act) (k : Nat) : a.tmps[k]?.getD undef = a.eval (.tmp k) := by simp [Act.eval]
theorem eval_same {a : Act} {k : Nat} (hk : k < a.tmps.size) (v : Value) : (a.put (some k) v).eval (.tmp k) = v := by
  simp [Act.eval, Act.put, hk]
theorem eval_other {a : Act} {k j : Nat} (hk : k ≠ j) (v : Value) : (a.put (some k) v).eval (.tmp j) = a.eval (.tmp j) := by
  simp only [Act.eval, Act.put, Array.getD_eq_getD_getElem?]
  rw [Array.getElem?_setIfInBounds_ne hk]
theorem LikeA.put {lo hi k : Nat} {a0 a1 : Act} (h : LikeA lo hi a0 a1) (hk : lo ≤ k ∧ k ≤ hi) (v : Value) : LikeA lo hi a0 (a1.put (some k) v) := by
  refine ⟨h.1, by simpa [Act.put] using h.2.1, fun j hj => ?_⟩
  have : k ≠ j := by omega
  simp only [Act.put]
  rw [Array.getElem?_setIfInBounds_ne this]
  exact h.2.2 j hj
end Go.Proofs.YtbddkmlfjghllaaGreatDoor
