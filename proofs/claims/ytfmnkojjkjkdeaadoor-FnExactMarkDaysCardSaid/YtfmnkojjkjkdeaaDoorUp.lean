/- Greatest differences of variables to one of them: what rounds over the links leave, and when they end. Plain Lean. -/
import Derived.Test.YtfmnkojjkjkdeaaDoorMath
import Derived.Test.YtfmnkojjkjkdeaaDoorBf
namespace Go.Proofs.YtfmnkojjkjkdeaaDoor
set_option linter.unusedVariables false
set_option linter.unusedSimpArgs false

theorem inAt_set (x : List Int) (v : Nat) (a : Int) (i : Nat) : inAt (x.set v a) i = if i = v ∧ v < x.length then a else inAt x i := by
  unfold inAt
  rw [List.getD_eq_getElem?_getD, List.getD_eq_getElem?_getD, List.getElem?_set]
  by_cases e : v = i
  · subst e
    by_cases h : v < x.length
    · simp [h]
    · simp [h, List.getElem?_eq_none (Nat.le_of_not_lt h)]
  · rw [if_neg e, if_neg (fun h => e h.1.symm)]
theorem list_ext {x y : List Int} (hl : x.length = y.length) (h : ∀ i, i < x.length → inAt x i = inAt y i) : x = y := by
  refine List.ext_getElem hl (fun i h1 h2 => ?_)
  have := h i h1
  unfold inAt at this
  simpa [List.getD_eq_getElem?_getD, h1, h2] using this

/-- entry v is lowered to entry u's plus c where it is greater -/
def relax (x : List Int) (v u : Nat) (c : Int) : List Int := if inAt x u + c < inAt x v then x.set v (inAt x u + c) else x
theorem relax_yes {x : List Int} {v u : Nat} {c : Int} (h : inAt x u + c < inAt x v) : relax x v u c = x.set v (inAt x u + c) := if_pos h
theorem relax_no {x : List Int} {v u : Nat} {c : Int} (h : ¬ inAt x u + c < inAt x v) : relax x v u c = x := if_neg h
theorem relax_len (x : List Int) (v u : Nat) (c : Int) : (relax x v u c).length = x.length := by unfold relax; split <;> simp
theorem relax_le (x : List Int) (v u : Nat) (c : Int) (i : Nat) : inAt (relax x v u c) i ≤ inAt x i := by
  unfold relax
  split
  · rw [inAt_set]
    split
    · rename_i h1 h2; rw [h2.1]; omega
    · omega
  · omega
theorem relax_keep {x : List Int} {v u : Nat} {c : Int} {p : Nat → Int} (hp : p v ≤ p u + c) {n : Nat} (hu : u < n) (h : ∀ i, i < n → p i ≤ inAt x i) : ∀ i, i < n → p i ≤ inAt (relax x v u c) i := by
  intro i hi
  unfold relax
  split
  · rw [inAt_set]
    split
    · rename_i h1 h2; rw [h2.1]; have := h u hu; omega
    · exact h i hi
  · exact h i hi
theorem relax_step {x : List Int} {v u : Nat} (c : Int) (hv : v < x.length) : inAt (relax x v u c) v ≤ inAt x u + c := by
  unfold relax
  split
  · rw [inAt_set, if_pos ⟨rfl, hv⟩]; omega
  · omega
/-- lowered stays different -/
theorem ne_of_lower {x y z : List Int} (hl : y.length = x.length) (hl2 : z.length = x.length) (h1 : ∀ i, inAt y i ≤ inAt x i) (h2 : ∀ i, inAt z i ≤ inAt y i) (h : y ≠ x) : z ≠ x := by
  intro e
  subst e
  exact h (list_ext hl (fun i hi => by have := h1 i; have := h2 i; omega))
theorem relax_ne {x : List Int} {v u : Nat} {c : Int} (hv : v < x.length) (h : inAt x u + c < inAt x v) : relax x v u c ≠ x := by
  intro e
  have : inAt (relax x v u c) v = inAt x v := by rw [e]
  rw [relax_yes h, inAt_set, if_pos ⟨rfl, hv⟩] at this
  omega

/-- both directions of a link -/
def up1 (l : Lk) (x : List Int) : List Int := relax x l.af.toNat l.be.toNat l.mo
def up2 (l : Lk) (x : List Int) : List Int := relax (up1 l x) l.be.toNat l.af.toNat (-l.le)
def upTo (ls : List Lk) (x : List Int) : Nat → List Int
  | 0 => x
  | j + 1 => up2 (lkAt ls j) (upTo ls x j)
def upR (ls : List Lk) (x : List Int) : List Int := upTo ls x ls.length
def upX (ls : List Lk) (x : List Int) : Nat → List Int
  | 0 => x
  | r + 1 => upR ls (upX ls x r)
theorem up2_len (l : Lk) (x : List Int) : (up2 l x).length = x.length := by unfold up2 up1; rw [relax_len, relax_len]
theorem up2_le (l : Lk) (x : List Int) (i : Nat) : inAt (up2 l x) i ≤ inAt x i := Int.le_trans (relax_le _ _ _ _ _) (relax_le _ _ _ _ _)
theorem upTo_len (ls : List Lk) (x : List Int) : ∀ j, (upTo ls x j).length = x.length
  | 0 => rfl
  | j + 1 => by unfold upTo; rw [up2_len, upTo_len ls x j]
theorem upTo_le (ls : List Lk) (x : List Int) (i : Nat) : ∀ j, inAt (upTo ls x j) i ≤ inAt x i
  | 0 => Int.le_refl _
  | j + 1 => Int.le_trans (up2_le _ _ _) (upTo_le ls x i j)
theorem upTo_anti (ls : List Lk) (x : List Int) (i : Nat) {j k : Nat} (h : j ≤ k) : inAt (upTo ls x k) i ≤ inAt (upTo ls x j) i := by
  induction h with
  | refl => exact Int.le_refl _
  | step _ ih => exact Int.le_trans (up2_le _ _ _) ih
theorem upX_len (ls : List Lk) (x : List Int) : ∀ r, (upX ls x r).length = x.length
  | 0 => rfl
  | r + 1 => by unfold upX upR; rw [upTo_len, upX_len ls x r]
/-- the constraints of links -/
def LkC (ls : List Lk) (u v : Nat) (c : Int) : Prop :=
  ∃ j, j < ls.length ∧ ((u = (lkAt ls j).be.toNat ∧ v = (lkAt ls j).af.toNat ∧ c = (lkAt ls j).mo) ∨ (u = (lkAt ls j).af.toNat ∧ v = (lkAt ls j).be.toNat ∧ c = -(lkAt ls j).le))
def LksOk (ls : List Lk) (n : Nat) : Prop := ∀ j, j < ls.length → LkOk (lkAt ls j) n
theorem LkC.dom {ls : List Lk} {n : Nat} (h : LksOk ls n) {u v : Nat} {c : Int} (hc : LkC ls u v c) : u < n ∧ v < n := by
  obtain ⟨j, hj, hh⟩ := hc
  obtain ⟨⟨l1, l2⟩, ⟨l3, l4⟩, _⟩ := h j hj
  omega
theorem upTo_keep {ls : List Lk} {n : Nat} (h : LksOk ls n) {x : List Int} {p : Nat → Int} (hp : Feas (LkC ls) p) (h0 : ∀ i, i < n → p i ≤ inAt x i) : ∀ j, j ≤ ls.length → ∀ i, i < n → p i ≤ inAt (upTo ls x j) i
  | 0, _ => h0
  | j + 1, hj => by
    have ih := upTo_keep h hp h0 j (by omega)
    obtain ⟨⟨l1, l2⟩, ⟨l3, l4⟩, _⟩ := h j (by omega)
    have h1 := hp _ _ _ ⟨j, by omega, .inl ⟨rfl, rfl, rfl⟩⟩
    have h2 := hp _ _ _ ⟨j, by omega, .inr ⟨rfl, rfl, rfl⟩⟩
    exact relax_keep h2 (by omega) (relax_keep h1 (by omega) ih)
theorem upR_step {ls : List Lk} {n : Nat} (h : LksOk ls n) {x : List Int} (hx : x.length = n) {u v : Nat} {c : Int} (hc : LkC ls u v c) : inAt (upR ls x) v ≤ inAt x u + c := by
  have hd := hc.dom h
  obtain ⟨j, hj, hh⟩ := hc
  have h0 := upTo_le ls x u j
  have h1 : inAt (upR ls x) v ≤ inAt (upTo ls x (j + 1)) v := upTo_anti ls x v hj
  have hl := upTo_len ls x j
  rcases hh with ⟨rfl, rfl, rfl⟩ | ⟨rfl, rfl, rfl⟩
  · have h2 : inAt (upTo ls x (j + 1)) (lkAt ls j).af.toNat ≤ inAt (up1 (lkAt ls j) (upTo ls x j)) (lkAt ls j).af.toNat := relax_le _ _ _ _ _
    have h3 : inAt (up1 (lkAt ls j) (upTo ls x j)) (lkAt ls j).af.toNat ≤ _ := relax_step (lkAt ls j).mo (by omega)
    omega
  · have h2 : inAt (up1 (lkAt ls j) (upTo ls x j)) (lkAt ls j).af.toNat ≤ inAt (upTo ls x j) (lkAt ls j).af.toNat := relax_le _ _ _ _ _
    have h3 : inAt (upTo ls x (j + 1)) (lkAt ls j).be.toNat ≤ _ := relax_step (-(lkAt ls j).le) (by unfold up1; rw [relax_len]; omega)
    omega
theorem upX_rounds {ls : List Lk} {n : Nat} (h : LksOk ls n) {x : List Int} (hx : x.length = n) : Rounds n (LkC ls) (fun r i => inAt (upX ls x r) i) where
  dom := fun u v c hc => hc.dom h
  le := fun r i _ => upTo_le _ _ _ _
  step := fun r u v c hc => upR_step h (by rw [upX_len, hx]) hc
  keep := fun r p hp h0 => upTo_keep h hp h0 _ (Nat.le_refl _)
/-- the start of the reach of variable a among n -/
def upStart (n a : Nat) : List Int := (List.replicate n (730499 : Int)).set a 0
theorem upStart_len (n a : Nat) : (upStart n a).length = n := by simp [upStart]
/-- there is something that fulfils all links, below the start -/
def UpOk (ls : List Lk) (x : List Int) : Prop := ∃ p : Nat → Int, Feas (LkC ls) p ∧ ∀ i, i < x.length → p i ≤ inAt x i
theorem upX_still {ls : List Lk} {x : List Int} (h : LksOk ls x.length) {r : Nat} (hr : upX ls x (r + 1) = upX ls x r) : UpOk ls x := by
  have H := upX_rounds h rfl
  have hs : Feas (LkC ls) (fun i => inAt (upX ls x r) i) := H.still (r := r) (fun i _ => by show inAt (upX ls x (r + 1)) i = inAt (upX ls x r) i; rw [hr])
  exact ⟨_, hs, fun i hi => H.anti (Nat.zero_le r) hi⟩
theorem upX_ends {ls : List Lk} {x : List Int} (h : LksOk ls x.length) (hok : UpOk ls x) {r r' : Nat} (hr : x.length ≤ r + 1) (hr' : x.length ≤ r' + 1) : upX ls x r = upX ls x r' := by
  obtain ⟨p, hp, h0⟩ := hok
  obtain ⟨P, _, _, _, _, hP⟩ := (upX_rounds h rfl).ends hp h0
  exact list_ext (by rw [upX_len, upX_len]) (fun i hi => by rw [upX_len] at hi; have h1 := hP r hr i hi; have h2 := hP r' hr' i hi; omega)
theorem upX_same {ls : List Lk} {x : List Int} {r : Nat} (hr : upX ls x (r + 1) = upX ls x r) : ∀ k, upX ls x (r + k) = upX ls x r
  | 0 => rfl
  | k + 1 => by
    have ih := upX_same hr k
    show upR ls (upX ls x (r + k)) = _
    rw [ih]
    exact hr
theorem relax_low {x : List Int} {v u : Nat} {c B : Int} (hc : -730499 ≤ c) {n : Nat} (hu : u < n) (h : ∀ i, i < n → B ≤ inAt x i) : ∀ i, i < n → B - 730499 ≤ inAt (relax x v u c) i := by
  intro i hi
  unfold relax
  split
  · rw [inAt_set]
    split
    · have := h u hu; omega
    · have := h i hi; omega
  · have := h i hi; omega
theorem upTo_low {ls : List Lk} {n : Nat} (h : LksOk ls n) {x : List Int} {B : Int} (h0 : ∀ i, i < n → B ≤ inAt x i) : ∀ j, j ≤ ls.length → ∀ i, i < n → B - 1460998 * j ≤ inAt (upTo ls x j) i
  | 0, _, i, hi => by have := h0 i hi; show _ ≤ inAt x i; omega
  | j + 1, hj, i, hi => by
    have ih := upTo_low h h0 j (by omega)
    obtain ⟨⟨l1, l2⟩, ⟨l3, l4⟩, _, ⟨l5, l6⟩, ⟨l7, l8⟩, _⟩ := h j (by omega)
    have h1 := relax_low (x := upTo ls x j) (v := (lkAt ls j).af.toNat) (u := (lkAt ls j).be.toNat) (c := (lkAt ls j).mo) (by omega) (by omega) ih
    have h2 := relax_low (x := up1 (lkAt ls j) (upTo ls x j)) (v := (lkAt ls j).be.toNat) (u := (lkAt ls j).af.toNat) (c := -(lkAt ls j).le) (n := n) (by omega) (by omega) h1 i hi
    show _ ≤ inAt (up2 (lkAt ls j) (upTo ls x j)) i
    unfold up2
    omega
theorem upX_low {ls : List Lk} {x : List Int} (h : LksOk ls x.length) (hl : ls.length ≤ 20) (h0 : ∀ i, i < x.length → 0 ≤ inAt x i) : ∀ (r : Nat) i, i < x.length → -29219960 * (r : Int) ≤ inAt (upX ls x r) i
  | 0, i, hi => by have := h0 i hi; show _ ≤ inAt x i; omega
  | r + 1, i, hi => by
    have ih := upX_low h hl h0 r
    have := upTo_low h (x := upX ls x r) ih ls.length (Nat.le_refl _) i hi
    show _ ≤ inAt (upTo ls (upX ls x r) ls.length) i
    omega
theorem upStart_low (n a : Nat) : ∀ i, i < n → 0 ≤ inAt (upStart n a) i := by
  intro i hi
  unfold upStart
  rw [inAt_set]
  split
  · omega
  · unfold inAt
    rw [List.getD_eq_getElem?_getD, List.getElem?_replicate]
    simp [hi]
theorem upStart_high (n a : Nat) : ∀ i, inAt (upStart n a) i ≤ 730499 := by
  intro i
  unfold upStart
  rw [inAt_set]
  split
  · omega
  · unfold inAt
    rw [List.getD_eq_getElem?_getD, List.getElem?_replicate]
    split <;> simp
theorem upX_high {ls : List Lk} {x : List Int} (h0 : ∀ i, inAt x i ≤ 730499) : ∀ (r : Nat) i, inAt (upX ls x r) i ≤ 730499
  | 0, i => h0 i
  | r + 1, i => Int.le_trans (upTo_le _ _ _ _) (upX_high h0 r i)
theorem upTo_bnd {ls : List Lk} {n a r j : Nat} (h : LksOk ls n) (hn : n ≤ 8) (hl : ls.length ≤ 20) (hr : r ≤ n) (hj : j ≤ ls.length) (i : Nat) (hi : i < n) :
    -500000000 ≤ inAt (upTo ls (upX ls (upStart n a) r) j) i ∧ inAt (upTo ls (upX ls (upStart n a) r) j) i ≤ 730499 := by
  have h0 : ∀ i, i < n → -29219960 * (r : Int) ≤ inAt (upX ls (upStart n a) r) i := by
    have := upX_low (x := upStart n a) (by rw [upStart_len]; exact h) hl (by rw [upStart_len]; exact upStart_low n a) r
    rw [upStart_len] at this
    exact this
  have h1 := upTo_low h h0 j hj i hi
  have h2 := upTo_le ls (upX ls (upStart n a) r) i j
  have h3 := upX_high (ls := ls) (upStart_high n a) r i
  omega
theorem upTo_bnd1 {l : Lk} {n : Nat} {y : List Int} (h : LkOk l n) (hb : ∀ i, i < n → -500000000 ≤ inAt y i ∧ inAt y i ≤ 730499) (i : Nat) (hi : i < n) : -600000000 ≤ inAt (up1 l y) i ∧ inAt (up1 l y) i ≤ 730499 := by
  obtain ⟨⟨l1, l2⟩, ⟨l3, l4⟩, _, ⟨l5, l6⟩, ⟨l7, l8⟩, _⟩ := h
  have h1 := relax_low (x := y) (v := l.af.toNat) (u := l.be.toNat) (c := l.mo) (n := n) (B := -500000000) (by omega) (by omega) (fun i hi => (hb i hi).1) i hi
  have h2 := relax_le y l.af.toNat l.be.toNat l.mo i
  have h3 := (hb i hi).2
  unfold up1
  omega
/-- what a link's turn leaves, and whether it differs from the start of the round -/
theorem up2_ne {l : Lk} {x y : List Int} {n : Nat} (h : LkOk l n) (hx : x.length = n) (hy : y.length = n) (hle : ∀ i, inAt y i ≤ inAt x i) {b : Bool} (hb : b = true ↔ y ≠ x) :
    ((b = true ∨ inAt y l.be.toNat + l.mo < inAt y l.af.toNat ∨ inAt (up1 l y) l.af.toNat + -l.le < inAt (up1 l y) l.be.toNat) ↔ up2 l y ≠ x) := by
  obtain ⟨⟨l1, l2⟩, ⟨l3, l4⟩, _⟩ := h
  have g1 : (up1 l y).length = y.length := relax_len _ _ _ _
  have g2 : (up2 l y).length = y.length := up2_len _ _
  have d1 : ∀ i, inAt (up1 l y) i ≤ inAt y i := fun i => relax_le _ _ _ _ i
  have d2 : ∀ i, inAt (up2 l y) i ≤ inAt (up1 l y) i := fun i => relax_le _ _ _ _ i
  constructor
  · intro hh
    by_cases h0 : y = x
    · subst h0
      rcases hh with hh | hh | hh
      · exact absurd rfl (hb.1 hh)
      · have h1 : up1 l y ≠ y := relax_ne (by omega) hh
        exact ne_of_lower g1 g2 d1 d2 h1
      · have h1 : up2 l y ≠ up1 l y := relax_ne (by omega) hh
        intro e
        exact h1 (list_ext (by omega) (fun i _ => by have e2 := d1 i; have e3 := d2 i; rw [e] at e3 ⊢; omega))
    · exact ne_of_lower (by omega) (by omega) hle (fun i => up2_le _ _ _) h0
  · intro hne
    by_cases h1 : inAt y l.be.toNat + l.mo < inAt y l.af.toNat
    · exact .inr (.inl h1)
    by_cases h2 : inAt (up1 l y) l.af.toNat + -l.le < inAt (up1 l y) l.be.toNat
    · exact .inr (.inr h2)
    · left
      rw [hb]
      intro e
      apply hne
      have e1 : up1 l y = y := relax_no h1
      have e2 : up2 l y = up1 l y := relax_no h2
      rw [e2, e1, e]
/-- each of the first r rounds changed something -/
def UpNe (ls : List Lk) (x : List Int) (r : Nat) : Prop := ∀ r', r' < r → upX ls x (r' + 1) ≠ upX ls x r'
theorem UpNe.zero (ls : List Lk) (x : List Int) : UpNe ls x 0 := fun r' h => absurd h (by omega)
theorem UpNe.succ {ls : List Lk} {x : List Int} {r : Nat} (h : UpNe ls x r) (h2 : upX ls x (r + 1) ≠ upX ls x r) : UpNe ls x (r + 1) := by
  intro r' hr
  by_cases e : r' = r
  · subst e; exact h2
  · exact h r' (by omega)
theorem UpNe.bad {ls : List Lk} {x : List Int} {r : Nat} (h : LksOk ls x.length) (h1 : UpNe ls x r) (hr : x.length < r) : ¬ UpOk ls x :=
  fun hok => h1 x.length hr (upX_ends h hok (by omega) (by omega))
/-- what the rounds leave -/
def upV (ls : List Lk) (x : List Int) : List Int := upX ls x x.length
theorem upV_of_still {ls : List Lk} {x : List Int} (h : LksOk ls x.length) {r : Nat} (hr : upX ls x (r + 1) = upX ls x r) : upX ls x r = upV ls x := by
  unfold upV
  by_cases hle : r ≤ x.length
  · obtain ⟨k, hk⟩ := Nat.le.dest hle
    rw [← hk]
    exact (upX_same hr k).symm
  · exact upX_ends h (upX_still h hr) (by omega) (by omega)
end Go.Proofs.YtfmnkojjkjkdeaaDoor
