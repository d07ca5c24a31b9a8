/- Texts merged (a claim holds at most sixty files): Up, Bo, Ch. -/
import Derived.Test.YtbddkmlfjghllaaGreatDoorT1Lib
import Derived.Test.YtbddkmlfjghllaaGreatDoorT1Bf
/- Greatest differences of variables to one of them: what rounds over the links leave, and when they end. Plain Lean. -/
namespace Go.Proofs.YtbddkmlfjghllaaGreatDoor
set_option linter.unusedVariables false
set_option linter.unusedSimpArgs false

theorem inAt_set (x : List Int) (v : Nat) (a : Int) (i : Nat) : inAt (x.set v a) i = if i = v ∧ v < x.length then a else inAt x i := by
  unfold inAt
  rw [List.getD_eq_getElem?_getD, List.getD_eq_getElem?_getD, List.getElem?_set]
  by_cases e : v = i
  · subst e
    by_cases h : v < x.length
    · simp [h]
    · simp [h, List.getElem?_eq_none (Nat.le_of_not_lt h)]
  · rw [if_neg e, if_neg (fun h => e h.1.symm)]
theorem list_ext {x y : List Int} (hl : x.length = y.length) (h : ∀ i, i < x.length → inAt x i = inAt y i) : x = y := by
  refine List.ext_getElem hl (fun i h1 h2 => ?_)
  have := h i h1
  unfold inAt at this
  simpa [List.getD_eq_getElem?_getD, h1, h2] using this

/-- entry v is lowered to entry u's plus c where it is greater -/
def relax (x : List Int) (v u : Nat) (c : Int) : List Int := if inAt x u + c < inAt x v then x.set v (inAt x u + c) else x
theorem relax_yes {x : List Int} {v u : Nat} {c : Int} (h : inAt x u + c < inAt x v) : relax x v u c = x.set v (inAt x u + c) := if_pos h
theorem relax_no {x : List Int} {v u : Nat} {c : Int} (h : ¬ inAt x u + c < inAt x v) : relax x v u c = x := if_neg h
theorem relax_len (x : List Int) (v u : Nat) (c : Int) : (relax x v u c).length = x.length := by unfold relax; split <;> simp
theorem relax_le (x : List Int) (v u : Nat) (c : Int) (i : Nat) : inAt (relax x v u c) i ≤ inAt x i := by
  unfold relax
  split
  · rw [inAt_set]
    split
    · rename_i h1 h2; rw [h2.1]; omega
    · omega
  · omega
theorem relax_keep {x : List Int} {v u : Nat} {c : Int} {p : Nat → Int} (hp : p v ≤ p u + c) {n : Nat} (hu : u < n) (h : ∀ i, i < n → p i ≤ inAt x i) : ∀ i, i < n → p i ≤ inAt (relax x v u c) i := by
  intro i hi
  unfold relax
  split
  · rw [inAt_set]
    split
    · rename_i h1 h2; rw [h2.1]; have := h u hu; omega
    · exact h i hi
  · exact h i hi
theorem relax_step {x : List Int} {v u : Nat} (c : Int) (hv : v < x.length) : inAt (relax x v u c) v ≤ inAt x u + c := by
  unfold relax
  split
  · rw [inAt_set, if_pos ⟨rfl, hv⟩]; omega
  · omega
/-- lowered stays different -/
theorem ne_of_lower {x y z : List Int} (hl : y.length = x.length) (hl2 : z.length = x.length) (h1 : ∀ i, inAt y i ≤ inAt x i) (h2 : ∀ i, inAt z i ≤ inAt y i) (h : y ≠ x) : z ≠ x := by
  intro e
  subst e
  exact h (list_ext hl (fun i hi => by have := h1 i; have := h2 i; omega))
theorem relax_ne {x : List Int} {v u : Nat} {c : Int} (hv : v < x.length) (h : inAt x u + c < inAt x v) : relax x v u c ≠ x := by
  intro e
  have : inAt (relax x v u c) v = inAt x v := by rw [e]
  rw [relax_yes h, inAt_set, if_pos ⟨rfl, hv⟩] at this
  omega

/-- both directions of a link -/
def up1 (l : Lk) (x : List Int) : List Int := relax x l.af.toNat l.be.toNat l.mo
def up2 (l : Lk) (x : List Int) : List Int := relax (up1 l x) l.be.toNat l.af.toNat (-l.le)
def upTo (ls : List Lk) (x : List Int) : Nat → List Int
  | 0 => x
  | j + 1 => up2 (lkAt ls j) (upTo ls x j)
def upR (ls : List Lk) (x : List Int) : List Int := upTo ls x ls.length
def upX (ls : List Lk) (x : List Int) : Nat → List Int
  | 0 => x
  | r + 1 => upR ls (upX ls x r)
theorem up2_len (l : Lk) (x : List Int) : (up2 l x).length = x.length := by unfold up2 up1; rw [relax_len, relax_len]
theorem up2_le (l : Lk) (x : List Int) (i : Nat) : inAt (up2 l x) i ≤ inAt x i := Int.le_trans (relax_le _ _ _ _ _) (relax_le _ _ _ _ _)
theorem upTo_len (ls : List Lk) (x : List Int) : ∀ j, (upTo ls x j).length = x.length
  | 0 => rfl
  | j + 1 => by unfold upTo; rw [up2_len, upTo_len ls x j]
theorem upTo_le (ls : List Lk) (x : List Int) (i : Nat) : ∀ j, inAt (upTo ls x j) i ≤ inAt x i
  | 0 => Int.le_refl _
  | j + 1 => Int.le_trans (up2_le _ _ _) (upTo_le ls x i j)
theorem upTo_anti (ls : List Lk) (x : List Int) (i : Nat) {j k : Nat} (h : j ≤ k) : inAt (upTo ls x k) i ≤ inAt (upTo ls x j) i := by
  induction h with
  | refl => exact Int.le_refl _
  | step _ ih => exact Int.le_trans (up2_le _ _ _) ih
theorem upX_len (ls : List Lk) (x : List Int) : ∀ r, (upX ls x r).length = x.length
  | 0 => rfl
  | r + 1 => by unfold upX upR; rw [upTo_len, upX_len ls x r]
/-- the constraints of links -/
def LkC (ls : List Lk) (u v : Nat) (c : Int) : Prop :=
  ∃ j, j < ls.length ∧ ((u = (lkAt ls j).be.toNat ∧ v = (lkAt ls j).af.toNat ∧ c = (lkAt ls j).mo) ∨ (u = (lkAt ls j).af.toNat ∧ v = (lkAt ls j).be.toNat ∧ c = -(lkAt ls j).le))
def LksOk (ls : List Lk) (n : Nat) : Prop := ∀ j, j < ls.length → LkOk (lkAt ls j) n
theorem LkC.dom {ls : List Lk} {n : Nat} (h : LksOk ls n) {u v : Nat} {c : Int} (hc : LkC ls u v c) : u < n ∧ v < n := by
  obtain ⟨j, hj, hh⟩ := hc
  obtain ⟨⟨l1, l2⟩, ⟨l3, l4⟩, _⟩ := h j hj
  omega
theorem upTo_keep {ls : List Lk} {n : Nat} (h : LksOk ls n) {x : List Int} {p : Nat → Int} (hp : Feas (LkC ls) p) (h0 : ∀ i, i < n → p i ≤ inAt x i) : ∀ j, j ≤ ls.length → ∀ i, i < n → p i ≤ inAt (upTo ls x j) i
  | 0, _ => h0
  | j + 1, hj => by
    have ih := upTo_keep h hp h0 j (by omega)
    obtain ⟨⟨l1, l2⟩, ⟨l3, l4⟩, _⟩ := h j (by omega)
    have h1 := hp _ _ _ ⟨j, by omega, .inl ⟨rfl, rfl, rfl⟩⟩
    have h2 := hp _ _ _ ⟨j, by omega, .inr ⟨rfl, rfl, rfl⟩⟩
    exact relax_keep h2 (by omega) (relax_keep h1 (by omega) ih)
theorem upR_step {ls : List Lk} {n : Nat} (h : LksOk ls n) {x : List Int} (hx : x.length = n) {u v : Nat} {c : Int} (hc : LkC ls u v c) : inAt (upR ls x) v ≤ inAt x u + c := by
  have hd := hc.dom h
  obtain ⟨j, hj, hh⟩ := hc
  have h0 := upTo_le ls x u j
  have h1 : inAt (upR ls x) v ≤ inAt (upTo ls x (j + 1)) v := upTo_anti ls x v hj
  have hl := upTo_len ls x j
  rcases hh with ⟨rfl, rfl, rfl⟩ | ⟨rfl, rfl, rfl⟩
  · have h2 : inAt (upTo ls x (j + 1)) (lkAt ls j).af.toNat ≤ inAt (up1 (lkAt ls j) (upTo ls x j)) (lkAt ls j).af.toNat := relax_le _ _ _ _ _
    have h3 : inAt (up1 (lkAt ls j) (upTo ls x j)) (lkAt ls j).af.toNat ≤ _ := relax_step (lkAt ls j).mo (by omega)
    omega
  · have h2 : inAt (up1 (lkAt ls j) (upTo ls x j)) (lkAt ls j).af.toNat ≤ inAt (upTo ls x j) (lkAt ls j).af.toNat := relax_le _ _ _ _ _
    have h3 : inAt (upTo ls x (j + 1)) (lkAt ls j).be.toNat ≤ _ := relax_step (-(lkAt ls j).le) (by unfold up1; rw [relax_len]; omega)
    omega
theorem upX_rounds {ls : List Lk} {n : Nat} (h : LksOk ls n) {x : List Int} (hx : x.length = n) : Rounds n (LkC ls) (fun r i => inAt (upX ls x r) i) where
  dom := fun u v c hc => hc.dom h
  le := fun r i _ => upTo_le _ _ _ _
  step := fun r u v c hc => upR_step h (by rw [upX_len, hx]) hc
  keep := fun r p hp h0 => upTo_keep h hp h0 _ (Nat.le_refl _)
/-- the start of the reach of variable a among n -/
def upStart (n a : Nat) : List Int := (List.replicate n (730499 : Int)).set a 0
theorem upStart_len (n a : Nat) : (upStart n a).length = n := by simp [upStart]
/-- there is something that fulfils all links, below the start -/
def UpOk (ls : List Lk) (x : List Int) : Prop := ∃ p : Nat → Int, Feas (LkC ls) p ∧ ∀ i, i < x.length → p i ≤ inAt x i
theorem upX_still {ls : List Lk} {x : List Int} (h : LksOk ls x.length) {r : Nat} (hr : upX ls x (r + 1) = upX ls x r) : UpOk ls x := by
  have H := upX_rounds h rfl
  have hs : Feas (LkC ls) (fun i => inAt (upX ls x r) i) := H.still (r := r) (fun i _ => by show inAt (upX ls x (r + 1)) i = inAt (upX ls x r) i; rw [hr])
  exact ⟨_, hs, fun i hi => H.anti (Nat.zero_le r) hi⟩
theorem upX_ends {ls : List Lk} {x : List Int} (h : LksOk ls x.length) (hok : UpOk ls x) {r r' : Nat} (hr : x.length ≤ r + 1) (hr' : x.length ≤ r' + 1) : upX ls x r = upX ls x r' := by
  obtain ⟨p, hp, h0⟩ := hok
  obtain ⟨P, _, _, _, _, hP⟩ := (upX_rounds h rfl).ends hp h0
  exact list_ext (by rw [upX_len, upX_len]) (fun i hi => by rw [upX_len] at hi; have h1 := hP r hr i hi; have h2 := hP r' hr' i hi; omega)
theorem upX_same {ls : List Lk} {x : List Int} {r : Nat} (hr : upX ls x (r + 1) = upX ls x r) : ∀ k, upX ls x (r + k) = upX ls x r
  | 0 => rfl
  | k + 1 => by
    have ih := upX_same hr k
    show upR ls (upX ls x (r + k)) = _
    rw [ih]
    exact hr
theorem relax_low {x : List Int} {v u : Nat} {c B : Int} (hc : -730499 ≤ c) {n : Nat} (hu : u < n) (h : ∀ i, i < n → B ≤ inAt x i) : ∀ i, i < n → B - 730499 ≤ inAt (relax x v u c) i := by
  intro i hi
  unfold relax
  split
  · rw [inAt_set]
    split
    · have := h u hu; omega
    · have := h i hi; omega
  · have := h i hi; omega
theorem upTo_low {ls : List Lk} {n : Nat} (h : LksOk ls n) {x : List Int} {B : Int} (h0 : ∀ i, i < n → B ≤ inAt x i) : ∀ j, j ≤ ls.length → ∀ i, i < n → B - 1460998 * j ≤ inAt (upTo ls x j) i
  | 0, _, i, hi => by have := h0 i hi; show _ ≤ inAt x i; omega
  | j + 1, hj, i, hi => by
    have ih := upTo_low h h0 j (by omega)
    obtain ⟨⟨l1, l2⟩, ⟨l3, l4⟩, _, ⟨l5, l6⟩, ⟨l7, l8⟩, _⟩ := h j (by omega)
    have h1 := relax_low (x := upTo ls x j) (v := (lkAt ls j).af.toNat) (u := (lkAt ls j).be.toNat) (c := (lkAt ls j).mo) (by omega) (by omega) ih
    have h2 := relax_low (x := up1 (lkAt ls j) (upTo ls x j)) (v := (lkAt ls j).be.toNat) (u := (lkAt ls j).af.toNat) (c := -(lkAt ls j).le) (n := n) (by omega) (by omega) h1 i hi
    show _ ≤ inAt (up2 (lkAt ls j) (upTo ls x j)) i
    unfold up2
    omega
theorem upX_low {ls : List Lk} {x : List Int} (h : LksOk ls x.length) (hl : ls.length ≤ 20) (h0 : ∀ i, i < x.length → 0 ≤ inAt x i) : ∀ (r : Nat) i, i < x.length → -29219960 * (r : Int) ≤ inAt (upX ls x r) i
  | 0, i, hi => by have := h0 i hi; show _ ≤ inAt x i; omega
  | r + 1, i, hi => by
    have ih := upX_low h hl h0 r
    have := upTo_low h (x := upX ls x r) ih ls.length (Nat.le_refl _) i hi
    show _ ≤ inAt (upTo ls (upX ls x r) ls.length) i
    omega
theorem upStart_low (n a : Nat) : ∀ i, i < n → 0 ≤ inAt (upStart n a) i := by
  intro i hi
  unfold upStart
  rw [inAt_set]
  split
  · omega
  · unfold inAt
    rw [List.getD_eq_getElem?_getD, List.getElem?_replicate]
    simp [hi]
theorem upStart_high (n a : Nat) : ∀ i, inAt (upStart n a) i ≤ 730499 := by
  intro i
  unfold upStart
  rw [inAt_set]
  split
  · omega
  · unfold inAt
    rw [List.getD_eq_getElem?_getD, List.getElem?_replicate]
    split <;> simp
theorem upX_high {ls : List Lk} {x : List Int} (h0 : ∀ i, inAt x i ≤ 730499) : ∀ (r : Nat) i, inAt (upX ls x r) i ≤ 730499
  | 0, i => h0 i
  | r + 1, i => Int.le_trans (upTo_le _ _ _ _) (upX_high h0 r i)
theorem upTo_bnd {ls : List Lk} {n a r j : Nat} (h : LksOk ls n) (hn : n ≤ 8) (hl : ls.length ≤ 20) (hr : r ≤ n) (hj : j ≤ ls.length) (i : Nat) (hi : i < n) :
    -500000000 ≤ inAt (upTo ls (upX ls (upStart n a) r) j) i ∧ inAt (upTo ls (upX ls (upStart n a) r) j) i ≤ 730499 := by
  have h0 : ∀ i, i < n → -29219960 * (r : Int) ≤ inAt (upX ls (upStart n a) r) i := by
    have := upX_low (x := upStart n a) (by rw [upStart_len]; exact h) hl (by rw [upStart_len]; exact upStart_low n a) r
    rw [upStart_len] at this
    exact this
  have h1 := upTo_low h h0 j hj i hi
  have h2 := upTo_le ls (upX ls (upStart n a) r) i j
  have h3 := upX_high (ls := ls) (upStart_high n a) r i
  omega
theorem upTo_bnd1 {l : Lk} {n : Nat} {y : List Int} (h : LkOk l n) (hb : ∀ i, i < n → -500000000 ≤ inAt y i ∧ inAt y i ≤ 730499) (i : Nat) (hi : i < n) : -600000000 ≤ inAt (up1 l y) i ∧ inAt (up1 l y) i ≤ 730499 := by
  obtain ⟨⟨l1, l2⟩, ⟨l3, l4⟩, _, ⟨l5, l6⟩, ⟨l7, l8⟩, _⟩ := h
  have h1 := relax_low (x := y) (v := l.af.toNat) (u := l.be.toNat) (c := l.mo) (n := n) (B := -500000000) (by omega) (by omega) (fun i hi => (hb i hi).1) i hi
  have h2 := relax_le y l.af.toNat l.be.toNat l.mo i
  have h3 := (hb i hi).2
  unfold up1
  omega
/-- what a link's turn leaves, and whether it differs from the start of the round -/
theorem up2_ne {l : Lk} {x y : List Int} {n : Nat} (h : LkOk l n) (hx : x.length = n) (hy : y.length = n) (hle : ∀ i, inAt y i ≤ inAt x i) {b : Bool} (hb : b = true ↔ y ≠ x) :
    ((b = true ∨ inAt y l.be.toNat + l.mo < inAt y l.af.toNat ∨ inAt (up1 l y) l.af.toNat + -l.le < inAt (up1 l y) l.be.toNat) ↔ up2 l y ≠ x) := by
  obtain ⟨⟨l1, l2⟩, ⟨l3, l4⟩, _⟩ := h
  have g1 : (up1 l y).length = y.length := relax_len _ _ _ _
  have g2 : (up2 l y).length = y.length := up2_len _ _
  have d1 : ∀ i, inAt (up1 l y) i ≤ inAt y i := fun i => relax_le _ _ _ _ i
  have d2 : ∀ i, inAt (up2 l y) i ≤ inAt (up1 l y) i := fun i => relax_le _ _ _ _ i
  constructor
  · intro hh
    by_cases h0 : y = x
    · subst h0
      rcases hh with hh | hh | hh
      · exact absurd rfl (hb.1 hh)
      · have h1 : up1 l y ≠ y := relax_ne (by omega) hh
        exact ne_of_lower g1 g2 d1 d2 h1
      · have h1 : up2 l y ≠ up1 l y := relax_ne (by omega) hh
        intro e
        exact h1 (list_ext (by omega) (fun i _ => by have e2 := d1 i; have e3 := d2 i; rw [e] at e3 ⊢; omega))
    · exact ne_of_lower (by omega) (by omega) hle (fun i => up2_le _ _ _) h0
  · intro hne
    by_cases h1 : inAt y l.be.toNat + l.mo < inAt y l.af.toNat
    · exact .inr (.inl h1)
    by_cases h2 : inAt (up1 l y) l.af.toNat + -l.le < inAt (up1 l y) l.be.toNat
    · exact .inr (.inr h2)
    · left
      rw [hb]
      intro e
      apply hne
      have e1 : up1 l y = y := relax_no h1
      have e2 : up2 l y = up1 l y := relax_no h2
      rw [e2, e1, e]
/-- each of the first r rounds changed something -/
def UpNe (ls : List Lk) (x : List Int) (r : Nat) : Prop := ∀ r', r' < r → upX ls x (r' + 1) ≠ upX ls x r'
theorem UpNe.zero (ls : List Lk) (x : List Int) : UpNe ls x 0 := fun r' h => absurd h (by omega)
theorem UpNe.succ {ls : List Lk} {x : List Int} {r : Nat} (h : UpNe ls x r) (h2 : upX ls x (r + 1) ≠ upX ls x r) : UpNe ls x (r + 1) := by
  intro r' hr
  by_cases e : r' = r
  · subst e; exact h2
  · exact h r' (by omega)
theorem UpNe.bad {ls : List Lk} {x : List Int} {r : Nat} (h : LksOk ls x.length) (h1 : UpNe ls x r) (hr : x.length < r) : ¬ UpOk ls x :=
  fun hok => h1 x.length hr (upX_ends h hok (by omega) (by omega))
/-- what the rounds leave -/
def upV (ls : List Lk) (x : List Int) : List Int := upX ls x x.length
theorem upV_of_still {ls : List Lk} {x : List Int} (h : LksOk ls x.length) {r : Nat} (hr : upX ls x (r + 1) = upX ls x r) : upX ls x r = upV ls x := by
  unfold upV
  by_cases hle : r ≤ x.length
  · obtain ⟨k, hk⟩ := Nat.le.dest hle
    rw [← hk]
    exact (upX_same hr k).symm
  · exact upX_ends h (upX_still h hr) (by omega) (by omega)
end Go.Proofs.YtbddkmlfjghllaaGreatDoor

/- The least and the greatest days within a choice of spans: what rounds over the links leave, and when they end. Plain Lean. -/
namespace Go.Proofs.YtbddkmlfjghllaaGreatDoor
set_option linter.unusedVariables false
set_option linter.unusedSimpArgs false

/-! ### rows of rounds from any start -/
theorem upX_low' {ls : List Lk} {x : List Int} {B : Int} (h : LksOk ls x.length) (hl : ls.length ≤ 21) (h0 : ∀ i, i < x.length → B ≤ inAt x i) : ∀ (r : Nat) i, i < x.length → B - 30680958 * (r : Int) ≤ inAt (upX ls x r) i
  | 0, i, hi => by have := h0 i hi; show _ ≤ inAt x i; omega
  | r + 1, i, hi => by
    have ih := upX_low' h hl h0 r
    have := upTo_low h (x := upX ls x r) ih ls.length (Nat.le_refl _) i hi
    show _ ≤ inAt (upTo ls (upX ls x r) ls.length) i
    omega
theorem upX_high' {ls : List Lk} {x : List Int} {B : Int} (h0 : ∀ i, i < x.length → inAt x i ≤ B) : ∀ (r : Nat) i, i < x.length → inAt (upX ls x r) i ≤ B
  | 0, i, hi => h0 i hi
  | r + 1, i, hi => Int.le_trans (upTo_le _ _ _ _) (upX_high' h0 r i hi)
/-- the end of the rounds depends on the constraints alone -/
theorem upV_congr {ls ls' : List Lk} {x : List Int} (h : LksOk ls x.length) (h' : LksOk ls' x.length) (hc : ∀ u v c, LkC ls u v c ↔ LkC ls' u v c) (hok : UpOk ls x) : upV ls x = upV ls' x := by
  obtain ⟨p, hp, h0⟩ := hok
  have hf : ∀ q, Feas (LkC ls) q ↔ Feas (LkC ls') q := fun q => ⟨fun hq u v c hh => hq u v c ((hc u v c).2 hh), fun hq u v c hh => hq u v c ((hc u v c).1 hh)⟩
  obtain ⟨P, hP1, hP2, hP3, _, hP5⟩ := (upX_rounds h rfl).ends hp h0
  obtain ⟨P', hQ1, hQ2, hQ3, _, hQ5⟩ := (upX_rounds h' rfl).ends ((hf p).1 hp) h0
  unfold upV
  refine list_ext (by rw [upX_len, upX_len]) (fun i hi => ?_)
  rw [upX_len] at hi
  have e1 := hP5 x.length (by omega) i hi
  have e2 := hQ5 x.length (by omega) i hi
  have e3 := hP3 P' ((hf P').2 hQ1) hQ2 i hi
  have e4 := hQ3 P ((hf P).1 hP1) hP2 i hi
  omega
/-- what the rounds leave fulfils all, and is the greatest -/
theorem upV_best {ls : List Lk} {x : List Int} (h : LksOk ls x.length) (hok : UpOk ls x) :
    Feas (LkC ls) (inAt (upV ls x)) ∧ (∀ i, i < x.length → inAt (upV ls x) i ≤ inAt x i) ∧ ∀ q, Feas (LkC ls) q → (∀ i, i < x.length → q i ≤ inAt x i) → ∀ i, i < x.length → q i ≤ inAt (upV ls x) i := by
  have hst : upX ls x (x.length + 1) = upX ls x x.length := upX_ends h hok (by omega) (by omega)
  have H := upX_rounds h rfl
  have hs : Feas (LkC ls) (fun i => inAt (upX ls x x.length) i) := H.still (r := x.length) (fun i _ => by show inAt (upX ls x (x.length + 1)) i = inAt (upX ls x x.length) i; rw [hst])
  refine ⟨hs, fun i hi => H.anti (Nat.zero_le _) hi, fun q hq hq0 i hi => H.above hq hq0 _ i hi⟩

/-! ### links read backwards, and lists with their signs turned -/
def lkNeg (l : Lk) : Lk := ⟨l.be, l.af, -l.mo, -l.le⟩
def lkRev (l : Lk) : Lk := ⟨l.af, l.be, -l.mo, -l.le⟩
def negL (x : List Int) : List Int := x.map (fun a => -a)
theorem negL_len (x : List Int) : (negL x).length = x.length := by simp [negL]
theorem inAt_neg (x : List Int) (i : Nat) : inAt (negL x) i = -inAt x i := by
  unfold inAt negL
  rw [List.getD_eq_getElem?_getD, List.getD_eq_getElem?_getD, List.getElem?_map]
  cases x[i]? <;> simp
theorem negL_negL (x : List Int) : negL (negL x) = x := by
  refine list_ext (by rw [negL_len, negL_len]) (fun i hi => by rw [inAt_neg, inAt_neg]; omega)
theorem negL_set (x : List Int) (v : Nat) (a : Int) : negL (x.set v a) = (negL x).set v (-a) := by
  unfold negL; rw [List.map_set]
theorem lkAt_map (f : Lk → Lk) (ls : List Lk) {j : Nat} (hj : j < ls.length) : lkAt (ls.map f) j = f (lkAt ls j) := by
  unfold lkAt
  simp [List.getD_eq_getElem?_getD, hj]
theorem LksOk.neg {ls : List Lk} {n : Nat} (h : LksOk ls n) : LksOk (ls.map lkNeg) n := by
  intro j hj
  have hj' : j < ls.length := by simpa using hj
  rw [lkAt_map _ _ hj']
  obtain ⟨a1, a2, a3, ⟨a4, a5⟩, ⟨a6, a7⟩, a8⟩ := h j hj'
  exact ⟨a1, a2, a3, ⟨by show -730499 ≤ -_; omega, by show -_ ≤ (730499 : Int); omega⟩, ⟨by show -730499 ≤ -_; omega, by show -_ ≤ (730499 : Int); omega⟩, by show -_ ≤ -_; omega⟩
theorem LksOk.rev {ls : List Lk} {n : Nat} (h : LksOk ls n) : LksOk (ls.map lkRev) n := by
  intro j hj
  have hj' : j < ls.length := by simpa using hj
  rw [lkAt_map _ _ hj']
  obtain ⟨a1, a2, a3, ⟨a4, a5⟩, ⟨a6, a7⟩, a8⟩ := h j hj'
  exact ⟨a2, a1, fun e => a3 e.symm, ⟨by show -730499 ≤ -_; omega, by show -_ ≤ (730499 : Int); omega⟩, ⟨by show -730499 ≤ -_; omega, by show -_ ≤ (730499 : Int); omega⟩, by show -_ ≤ -_; omega⟩
theorem lkC_rev {ls : List Lk} (u v : Nat) (c : Int) : LkC ls u v c ↔ LkC (ls.map lkRev) u v c := by
  constructor
  · rintro ⟨j, hj, hh⟩
    refine ⟨j, by simpa using hj, ?_⟩
    rw [lkAt_map _ _ hj]
    rcases hh with ⟨h1, h2, h3⟩ | ⟨h1, h2, h3⟩
    · exact .inr ⟨h1, h2, by show c = - -_; omega⟩
    · exact .inl ⟨h1, h2, h3⟩
  · rintro ⟨j, hj, hh⟩
    have hj' : j < ls.length := by simpa using hj
    rw [lkAt_map _ _ hj'] at hh
    refine ⟨j, hj', ?_⟩
    rcases hh with ⟨h1, h2, h3⟩ | ⟨h1, h2, h3⟩
    · exact .inr ⟨h1, h2, h3⟩
    · exact .inl ⟨h1, h2, by have : c = - -(lkAt ls j).mo := h3; omega⟩
theorem feas_neg {ls : List Lk} {p : Nat → Int} : Feas (LkC (ls.map lkNeg)) p ↔ Feas (LkC ls) (fun i => -p i) := by
  constructor
  · rintro h u v c ⟨j, hj, hh⟩
    have hl : j < (ls.map lkNeg).length := by simpa using hj
    rcases hh with ⟨rfl, rfl, rfl⟩ | ⟨rfl, rfl, rfl⟩
    · have := h (lkAt ls j).af.toNat (lkAt ls j).be.toNat (lkAt ls j).mo ⟨j, hl, .inr (by rw [lkAt_map _ _ hj]; exact ⟨rfl, rfl, by show _ = - -_; omega⟩)⟩
      show -_ ≤ -_ + _
      omega
    · have := h (lkAt ls j).be.toNat (lkAt ls j).af.toNat (-(lkAt ls j).le) ⟨j, hl, .inl (by rw [lkAt_map _ _ hj]; exact ⟨rfl, rfl, rfl⟩)⟩
      show -_ ≤ -_ + _
      omega
  · rintro h u v c ⟨j, hj, hh⟩
    have hj' : j < ls.length := by simpa using hj
    rw [lkAt_map _ _ hj'] at hh
    rcases hh with ⟨h1, h2, h3⟩ | ⟨h1, h2, h3⟩
    · have := h v u c ⟨j, hj', .inr ⟨h2, h1, h3⟩⟩
      simp only at this
      omega
    · have := h v u c ⟨j, hj', .inl ⟨h2, h1, by have : c = - -(lkAt ls j).mo := h3; omega⟩⟩
      simp only at this
      omega

/-! ### raising -/
def lift (x : List Int) (v u : Nat) (c : Int) : List Int := if inAt x v < inAt x u + c then x.set v (inAt x u + c) else x
theorem lift_yes {x : List Int} {v u : Nat} {c : Int} (h : inAt x v < inAt x u + c) : lift x v u c = x.set v (inAt x u + c) := if_pos h
theorem lift_no {x : List Int} {v u : Nat} {c : Int} (h : ¬ inAt x v < inAt x u + c) : lift x v u c = x := if_neg h
theorem lift_neg (x : List Int) (v u : Nat) (c : Int) : lift x v u c = negL (relax (negL x) v u (-c)) := by
  unfold lift relax
  rw [inAt_neg, inAt_neg]
  by_cases h : inAt x v < inAt x u + c
  · rw [if_pos h, if_pos (by omega), negL_set, negL_negL]
    congr 1; omega
  · rw [if_neg h, if_neg (by omega), negL_negL]
/-- both directions of a link, from below -/
def lo1 (l : Lk) (x : List Int) : List Int := lift x l.af.toNat l.be.toNat l.le
def lo2 (l : Lk) (x : List Int) : List Int := lift (lo1 l x) l.be.toNat l.af.toNat (-l.mo)
def loTo (ls : List Lk) (x : List Int) : Nat → List Int
  | 0 => x
  | j + 1 => lo2 (lkAt ls j) (loTo ls x j)
def loX (ls : List Lk) (x : List Int) : Nat → List Int
  | 0 => x
  | r + 1 => loTo ls (loX ls x r) ls.length
theorem lo1_neg (l : Lk) (x : List Int) : lo1 l x = negL (up1 (lkNeg l) (negL x)) := by unfold lo1 up1; rw [lift_neg]; rfl
theorem lo2_neg (l : Lk) (x : List Int) : lo2 l x = negL (up2 (lkNeg l) (negL x)) := by
  unfold lo2 up2
  rw [lift_neg, lo1_neg, negL_negL]
  rfl
theorem loTo_neg (ls : List Lk) (x : List Int) : ∀ j, j ≤ ls.length → loTo ls x j = negL (upTo (ls.map lkNeg) (negL x) j)
  | 0, _ => by show x = negL (negL x); rw [negL_negL]
  | j + 1, h => by
    show lo2 (lkAt ls j) (loTo ls x j) = negL (up2 (lkAt (ls.map lkNeg) j) (upTo (ls.map lkNeg) (negL x) j))
    rw [loTo_neg ls x j (by omega), lo2_neg, negL_negL, lkAt_map _ _ (by omega)]
theorem loX_neg (ls : List Lk) (x : List Int) : ∀ r, loX ls x r = negL (upX (ls.map lkNeg) (negL x) r)
  | 0 => by show x = negL (negL x); rw [negL_negL]
  | r + 1 => by
    show loTo ls (loX ls x r) ls.length = negL (upTo (ls.map lkNeg) (upX (ls.map lkNeg) (negL x) r) (ls.map lkNeg).length)
    rw [loTo_neg _ _ _ (Nat.le_refl _), loX_neg ls x r, negL_negL, List.length_map]
theorem lo1_len (l : Lk) (x : List Int) : (lo1 l x).length = x.length := by rw [lo1_neg, negL_len]; unfold up1; rw [relax_len, negL_len]
theorem lo2_len (l : Lk) (x : List Int) : (lo2 l x).length = x.length := by rw [lo2_neg, negL_len, up2_len, negL_len]
theorem loTo_len (ls : List Lk) (x : List Int) : ∀ j, (loTo ls x j).length = x.length
  | 0 => rfl
  | j + 1 => by unfold loTo; rw [lo2_len, loTo_len ls x j]
theorem loX_len (ls : List Lk) (x : List Int) (r : Nat) : (loX ls x r).length = x.length := by rw [loX_neg, negL_len, upX_len, negL_len]
theorem negL_inj {x y : List Int} : negL x = negL y ↔ x = y := ⟨fun h => by rw [← negL_negL x, h, negL_negL], fun h => by rw [h]⟩

/-! ### choices -/
def tosL (ch : List Sp) : List Int := ch.map (·.to)
def frsL (ch : List Sp) : List Int := ch.map (·.fr)
theorem tosL_len (ch : List Sp) : (tosL ch).length = ch.length := by simp [tosL]
theorem frsL_len (ch : List Sp) : (frsL ch).length = ch.length := by simp [frsL]
theorem inAt_tos (ch : List Sp) (i : Nat) : inAt (tosL ch) i = (spAt ch i).to := by
  unfold inAt tosL spAt
  rw [List.getD_eq_getElem?_getD, List.getD_eq_getElem?_getD, List.getElem?_map]
  cases ch[i]? <;> rfl
theorem inAt_frs (ch : List Sp) (i : Nat) : inAt (frsL ch) i = (spAt ch i).fr := by
  unfold inAt frsL spAt
  rw [List.getD_eq_getElem?_getD, List.getD_eq_getElem?_getD, List.getElem?_map]
  cases ch[i]? <;> rfl
/-- days that fulfil all links within a choice -/
def ChSol (ls : List Lk) (ch : List Sp) (p : Nat → Int) : Prop := Feas (LkC ls) p ∧ ∀ i, i < ch.length → (spAt ch i).fr ≤ p i ∧ p i ≤ (spAt ch i).to
def ChOk (ls : List Lk) (ch : List Sp) : Prop := ∃ p, ChSol ls ch p
def highV (ls : List Lk) (ch : List Sp) : List Int := upV ls (tosL ch)
def lowV (ls : List Lk) (ch : List Sp) : List Int := loX ls (frsL ch) ch.length
theorem highV_len (ls : List Lk) (ch : List Sp) : (highV ls ch).length = ch.length := by unfold highV upV; rw [upX_len, tosL_len]
theorem lowV_len (ls : List Lk) (ch : List Sp) : (lowV ls ch).length = ch.length := by unfold lowV; rw [loX_len, frsL_len]
theorem ChOk.up {ls : List Lk} {ch : List Sp} (h : ChOk ls ch) : UpOk ls (tosL ch) := by
  obtain ⟨p, h1, h2⟩ := h
  exact ⟨p, h1, fun i hi => by rw [tosL_len] at hi; rw [inAt_tos]; exact (h2 i hi).2⟩
theorem ChOk.lo {ls : List Lk} {ch : List Sp} (h : ChOk ls ch) : UpOk (ls.map lkNeg) (negL (frsL ch)) := by
  obtain ⟨p, h1, h2⟩ := h
  refine ⟨fun i => -p i, feas_neg.2 (by simpa using h1), fun i hi => ?_⟩
  rw [negL_len, frsL_len] at hi
  rw [inAt_neg, inAt_frs]
  have := (h2 i hi).1
  show -p i ≤ _
  omega
theorem ChOk.high {ls : List Lk} {ch : List Sp} (hl : LksOk ls ch.length) (h : ChOk ls ch) : ChSol ls ch (inAt (highV ls ch)) ∧ ∀ p, ChSol ls ch p → ∀ i, i < ch.length → p i ≤ inAt (highV ls ch) i := by
  obtain ⟨b1, b2, b3⟩ := upV_best (by rw [tosL_len]; exact hl) h.up
  rw [tosL_len] at b2 b3
  have hg : ∀ p, ChSol ls ch p → ∀ i, i < ch.length → p i ≤ inAt (highV ls ch) i := fun p hp => b3 p hp.1 (fun i hi => by rw [inAt_tos]; exact (hp.2 i hi).2)
  refine ⟨⟨b1, fun i hi => ⟨?_, by have := b2 i hi; rwa [inAt_tos] at this⟩⟩, hg⟩
  obtain ⟨p, hp⟩ := h
  exact Int.le_trans (hp.2 i hi).1 (hg p hp i hi)
theorem ChOk.low {ls : List Lk} {ch : List Sp} (hl : LksOk ls ch.length) (h : ChOk ls ch) : ChSol ls ch (inAt (lowV ls ch)) ∧ ∀ p, ChSol ls ch p → ∀ i, i < ch.length → inAt (lowV ls ch) i ≤ p i := by
  have hlen : (negL (frsL ch)).length = ch.length := by rw [negL_len, frsL_len]
  obtain ⟨b1, b2, b3⟩ := upV_best (by rw [hlen]; exact hl.neg) h.lo
  have e : ∀ i, inAt (lowV ls ch) i = -inAt (upV (ls.map lkNeg) (negL (frsL ch))) i := fun i => by unfold lowV upV; rw [loX_neg, inAt_neg, hlen]
  rw [hlen] at b2 b3
  have hg : ∀ p, ChSol ls ch p → ∀ i, i < ch.length → inAt (lowV ls ch) i ≤ p i := by
    intro p hp i hi
    have := b3 (fun i => -p i) (feas_neg.2 (by simpa using hp.1)) (fun i hi => by rw [inAt_neg, inAt_frs]; have := (hp.2 i hi).1; omega) i hi
    rw [e]
    have this' : -p i ≤ _ := this
    omega
  refine ⟨⟨?_, fun i hi => ⟨?_, ?_⟩⟩, hg⟩
  · have := feas_neg.1 b1
    intro u v c hc
    have := this u v c hc
    rw [e, e]
    exact this
  · have := b2 i hi
    rw [inAt_neg, inAt_frs] at this
    rw [e]
    omega
  · obtain ⟨p, hp⟩ := h
    exact Int.le_trans (hg p hp i hi) (hp.2 i hi).2

/-! ### the rounds of a choice: ls for the low days, hs (the same links, or read backwards) for the high ones -/
section
variable {ls hs : List Lk} {ch : List Sp}
/-- hs says what ls says -/
def Alike (ls hs : List Lk) : Prop := ∀ u v c, LkC ls u v c ↔ LkC hs u v c
def Still2 (ls hs : List Lk) (ch : List Sp) (r : Nat) : Prop := loX ls (frsL ch) (r + 1) = loX ls (frsL ch) r ∧ upX hs (tosL ch) (r + 1) = upX hs (tosL ch) r
def Ne2 (ls hs : List Lk) (ch : List Sp) (r : Nat) : Prop := ∀ r', r' < r → ¬ Still2 ls hs ch r'
theorem Ne2.zero : Ne2 ls hs ch 0 := fun r' h => absurd h (by omega)
theorem Ne2.succ {r : Nat} (h : Ne2 ls hs ch r) (h2 : ¬ Still2 ls hs ch r) : Ne2 ls hs ch (r + 1) := by
  intro r' hr
  by_cases e : r' = r
  · subst e; exact h2
  · exact h r' (by omega)
theorem ChOk.alike (h : ChOk ls ch) (ha : Alike ls hs) : UpOk hs (tosL ch) := by
  obtain ⟨p, h1, h2⟩ := h.up
  exact ⟨p, fun u v c hc => h1 u v c ((ha u v c).2 hc), h2⟩
theorem still2_of_ok (hl : LksOk ls ch.length) (hh : LksOk hs ch.length) (ha : Alike ls hs) (h : ChOk ls ch) {r : Nat} (hr : ch.length ≤ r + 1) : Still2 ls hs ch r := by
  have hlen : (negL (frsL ch)).length = ch.length := by rw [negL_len, frsL_len]
  constructor
  · rw [loX_neg, loX_neg, upX_ends (by rw [hlen]; exact hl.neg) h.lo (r := r + 1) (r' := r) (by omega) (by omega)]
  · exact upX_ends (by rw [tosL_len]; exact hh) (h.alike ha) (by rw [tosL_len]; omega) (by rw [tosL_len]; omega)
theorem Ne2.bad (hl : LksOk ls ch.length) (hh : LksOk hs ch.length) (ha : Alike ls hs) {r : Nat} (h : Ne2 ls hs ch r) (hr : ch.length < r) : ¬ ChOk ls ch :=
  fun hok => h ch.length hr (still2_of_ok hl hh ha hok (by omega))
/-- in all rounds the low days stay below, and the high ones above, all that fulfils the links -/
theorem rounds_between (hl : LksOk ls ch.length) (hh : LksOk hs ch.length) (ha : Alike ls hs) {p : Nat → Int} (hp : ChSol ls ch p) (r : Nat) : ∀ i, i < ch.length → inAt (loX ls (frsL ch) r) i ≤ p i ∧ p i ≤ inAt (upX hs (tosL ch) r) i := by
  intro i hi
  have hlen : (negL (frsL ch)).length = ch.length := by rw [negL_len, frsL_len]
  have h1 := (upX_rounds (n := ch.length) hl.neg hlen).above (p := fun i => -p i) (feas_neg.2 (by simpa using hp.1)) (fun i hi => by show _ ≤ inAt (negL (frsL ch)) i; rw [inAt_neg, inAt_frs]; have := (hp.2 i hi).1; omega) r i hi
  have h2 := (upX_rounds (n := ch.length) hh (tosL_len ch)).above (p := p) (fun u v c hc => hp.1 u v c ((ha u v c).2 hc)) (fun i hi => by show _ ≤ inAt (tosL ch) i; rw [inAt_tos]; exact (hp.2 i hi).2) r i hi
  constructor
  · have h1' : -p i ≤ inAt (upX (ls.map lkNeg) (negL (frsL ch)) r) i := h1
    rw [loX_neg, inAt_neg]; omega
  · exact h2
/-- a round that changes nothing and crosses nothing has found all -/
theorem still2_ok (hl : LksOk ls ch.length) {r : Nat} (h : Still2 ls hs ch r) (hx : ∀ i, i < ch.length → inAt (loX ls (frsL ch) r) i ≤ (spAt ch i).to) : ChOk ls ch := by
  have hlen : (negL (frsL ch)).length = ch.length := by rw [negL_len, frsL_len]
  have H := upX_rounds (n := ch.length) hl.neg hlen
  have e : upX (ls.map lkNeg) (negL (frsL ch)) (r + 1) = upX (ls.map lkNeg) (negL (frsL ch)) r := by
    have := h.1
    rw [loX_neg, loX_neg] at this
    exact negL_inj.1 this
  have hs := H.still (r := r) (fun i _ => by show inAt (upX _ _ (r + 1)) i = inAt (upX _ _ r) i; rw [e])
  refine ⟨inAt (loX ls (frsL ch) r), ?_, fun i hi => ⟨?_, hx i hi⟩⟩
  · have := feas_neg.1 hs
    intro u v c hc
    have := this u v c hc
    rw [loX_neg, inAt_neg, inAt_neg]
    exact this
  · have h1 := H.anti (Nat.zero_le r) hi
    have h1' : inAt (upX (ls.map lkNeg) (negL (frsL ch)) r) i ≤ inAt (negL (frsL ch)) i := h1
    rw [inAt_neg, inAt_frs] at h1'
    rw [loX_neg, inAt_neg]
    omega
theorem still2_vals (hl : LksOk ls ch.length) (hh : LksOk hs ch.length) (ha : Alike ls hs) (hok : ChOk ls ch) {r : Nat} (h : Still2 ls hs ch r) : loX ls (frsL ch) r = lowV ls ch ∧ upX hs (tosL ch) r = highV ls ch := by
  have hlen : (negL (frsL ch)).length = ch.length := by rw [negL_len, frsL_len]
  constructor
  · have e : upX (ls.map lkNeg) (negL (frsL ch)) (r + 1) = upX (ls.map lkNeg) (negL (frsL ch)) r := by
      have := h.1
      rw [loX_neg, loX_neg] at this
      exact negL_inj.1 this
    have := upV_of_still (by rw [hlen]; exact hl.neg) e
    unfold lowV
    rw [loX_neg, loX_neg, this]
    unfold upV
    rw [hlen]
  · rw [upV_of_still (by rw [tosL_len]; exact hh) h.2]
    unfold highV
    exact (upV_congr (by rw [tosL_len]; exact hl) (by rw [tosL_len]; exact hh) ha hok.up).symm
/-- the reference's test behind a round -/
def CrossS (ls hs : List Lk) (ch : List Sp) (r i : Nat) : Prop := (spAt ch i).to < inAt (loX ls (frsL ch) r) i ∨ inAt (upX hs (tosL ch) r) i < (spAt ch i).fr
theorem crossS_bad (hl : LksOk ls ch.length) (hh : LksOk hs ch.length) (ha : Alike ls hs) {r i : Nat} (hi : i < ch.length) (h : CrossS ls hs ch r i) : ¬ ChOk ls ch := by
  rintro ⟨p, hp⟩
  have h1 := rounds_between hl hh ha hp r i hi
  have h2 := hp.2 i hi
  rcases h with h | h <;> omega
/-- the program's test behind a round -/
def CrossI (ls hs : List Lk) (ch : List Sp) (r i : Nat) : Prop := inAt (upX hs (tosL ch) r) i < inAt (loX ls (frsL ch) r) i
theorem crossI_bad (hl : LksOk ls ch.length) (hh : LksOk hs ch.length) (ha : Alike ls hs) {r i : Nat} (hi : i < ch.length) (h : CrossI ls hs ch r i) : ¬ ChOk ls ch := by
  rintro ⟨p, hp⟩
  have h1 := rounds_between hl hh ha hp r i hi
  unfold CrossI at h
  omega
theorem crossI_free {r : Nat} (h : ∀ i, i < ch.length → ¬ CrossI ls hs ch r i) : ∀ i, i < ch.length → inAt (loX ls (frsL ch) r) i ≤ (spAt ch i).to := by
  intro i hi
  have h1 := h i hi
  unfold CrossI at h1
  have h2 : inAt (upX hs (tosL ch) r) i ≤ inAt (tosL ch) i := by
    have : ∀ r, inAt (upX hs (tosL ch) r) i ≤ inAt (tosL ch) i := by
      intro r
      induction r with
      | zero => exact Int.le_refl _
      | succ r ih => exact Int.le_trans (upTo_le _ _ _ _) ih
    exact this r
  rw [inAt_tos] at h2
  omega
theorem crossS_free {r : Nat} (h : ∀ i, i < ch.length → ¬ CrossS ls hs ch r i) : ∀ i, i < ch.length → inAt (loX ls (frsL ch) r) i ≤ (spAt ch i).to := by
  intro i hi
  have h1 := h i hi
  unfold CrossS at h1
  omega
end
theorem alike_refl (ls : List Lk) : Alike ls ls := fun _ _ _ => Iff.rfl
theorem alike_rev (ls : List Lk) : Alike ls (ls.map lkRev) := lkC_rev

/-! ### bounds for the machine's numbers, and the mark 'changed' -/
def SpsOk (ch : List Sp) : Prop := ∀ i, i < ch.length → SpOk (spAt ch i)
theorem hi_bnd {hs : List Lk} {ch : List Sp} {r j : Nat} (h : LksOk hs ch.length) (hc : SpsOk ch) (hn : ch.length ≤ 8) (hl : hs.length ≤ 21) (hr : r ≤ ch.length + 2) (hj : j ≤ hs.length) (i : Nat) (hi : i < ch.length) :
    -500000000 ≤ inAt (upTo hs (upX hs (tosL ch) r) j) i ∧ inAt (upTo hs (upX hs (tosL ch) r) j) i ≤ 730499 := by
  have hlen := tosL_len ch
  have h0 := upX_low' (B := 0) (x := tosL ch) (by rw [hlen]; exact h) hl (fun i hi => by rw [hlen] at hi; rw [inAt_tos]; exact (hc i hi).2.1.1) r
  rw [hlen] at h0
  have h1 := upTo_low h h0 j hj i hi
  have h2 := upTo_le hs (upX hs (tosL ch) r) i j
  have h3 := upX_high' (ls := hs) (x := tosL ch) (B := 730499) (fun i hi => by rw [hlen] at hi; rw [inAt_tos]; exact (hc i hi).2.1.2) r i (by omega)
  omega
theorem lo_bnd {ls : List Lk} {ch : List Sp} {r j : Nat} (h : LksOk ls ch.length) (hc : SpsOk ch) (hn : ch.length ≤ 8) (hl : ls.length ≤ 21) (hr : r ≤ ch.length + 2) (hj : j ≤ ls.length) (i : Nat) (hi : i < ch.length) :
    0 ≤ inAt (loTo ls (loX ls (frsL ch) r) j) i ∧ inAt (loTo ls (loX ls (frsL ch) r) j) i ≤ 500000000 := by
  have hlen : (negL (frsL ch)).length = ch.length := by rw [negL_len, frsL_len]
  have hll : (ls.map lkNeg).length = ls.length := List.length_map _
  have h0 := upX_low' (B := -730499) (x := negL (frsL ch)) (by rw [hlen]; exact h.neg) (by omega) (fun i hi => by rw [hlen] at hi; rw [inAt_neg, inAt_frs]; have := (hc i hi).1.2; omega) r
  rw [hlen] at h0
  have h1 := upTo_low h.neg h0 j (by omega) i hi
  have h2 := upTo_le (ls.map lkNeg) (upX (ls.map lkNeg) (negL (frsL ch)) r) i j
  have h3 := upX_high' (ls := ls.map lkNeg) (x := negL (frsL ch)) (B := 0) (fun i hi => by rw [hlen] at hi; rw [inAt_neg, inAt_frs]; have := (hc i hi).1.1; omega) r i (by omega)
  rw [loTo_neg _ _ _ hj, loX_neg, negL_negL, inAt_neg]
  omega
theorem up1_bnd {l : Lk} {n : Nat} {y : List Int} (h : LkOk l n) (hb : ∀ i, i < n → -500000000 ≤ inAt y i ∧ inAt y i ≤ 730499) (i : Nat) (hi : i < n) : -600000000 ≤ inAt (up1 l y) i ∧ inAt (up1 l y) i ≤ 730499 := upTo_bnd1 h hb i hi
theorem lo1_bnd {l : Lk} {n : Nat} {y : List Int} (h : LkOk l n) (hb : ∀ i, i < n → 0 ≤ inAt y i ∧ inAt y i ≤ 500000000) (i : Nat) (hi : i < n) : 0 ≤ inAt (lo1 l y) i ∧ inAt (lo1 l y) i ≤ 600000000 := by
  obtain ⟨⟨l1, l2⟩, ⟨l3, l4⟩, _, ⟨l5, l6⟩, ⟨l7, l8⟩, _⟩ := h
  have h0 := hb i hi
  have h1 := hb l.be.toNat (by omega)
  unfold lo1 lift
  split
  · rw [inAt_set]
    split
    · rename_i h2 h3
      obtain ⟨h3, _⟩ := h3
      subst h3
      omega
    · omega
  · omega
theorem up_ne {l : Lk} {x y : List Int} {n : Nat} (h : LkOk l n) (hx : x.length = n) (hy : y.length = n) (hle : ∀ i, inAt y i ≤ inAt x i) :
    (y ≠ x ∨ inAt y l.be.toNat + l.mo < inAt y l.af.toNat ∨ inAt (up1 l y) l.af.toNat + -l.le < inAt (up1 l y) l.be.toNat) ↔ up2 l y ≠ x := by
  have := up2_ne h hx hy hle (b := B (y ≠ x)) B_iff
  rwa [B_iff] at this
theorem lo_ne {l : Lk} {x y : List Int} {n : Nat} (h : LkOk l n) (hx : x.length = n) (hy : y.length = n) (hle : ∀ i, inAt x i ≤ inAt y i) :
    (y ≠ x ∨ inAt y l.af.toNat < inAt y l.be.toNat + l.le ∨ inAt (lo1 l y) l.be.toNat < inAt (lo1 l y) l.af.toNat + -l.mo) ↔ lo2 l y ≠ x := by
  obtain ⟨a1, a2, a3, ⟨a4, a5⟩, ⟨a6, a7⟩, a8⟩ := h
  have hn : LkOk (lkNeg l) n := ⟨a1, a2, a3, ⟨by show -730499 ≤ -_; omega, by show -_ ≤ (730499 : Int); omega⟩, ⟨by show -730499 ≤ -_; omega, by show -_ ≤ (730499 : Int); omega⟩, by show -_ ≤ -_; omega⟩
  have := up_ne (x := negL x) (y := negL y) hn (by rw [negL_len, hx]) (by rw [negL_len, hy]) (fun i => by rw [inAt_neg, inAt_neg]; have := hle i; omega)
  have e1 : (negL y ≠ negL x) ↔ y ≠ x := not_congr negL_inj
  have e2 : (up2 (lkNeg l) (negL y) ≠ negL x) ↔ lo2 l y ≠ x := by
    rw [lo2_neg]
    refine not_congr ⟨fun h => by rw [h, negL_negL], fun h => by rw [← h, negL_negL]⟩
  have e3 : inAt (up1 (lkNeg l) (negL y)) = fun i => -inAt (lo1 l y) i := by
    funext i
    rw [lo1_neg, inAt_neg]; omega
  rw [e1, e2, inAt_neg, inAt_neg, e3] at this
  rw [← this]
  have f1 : (-inAt y (lkNeg l).be.toNat + (lkNeg l).mo < -inAt y (lkNeg l).af.toNat) ↔ inAt y l.af.toNat < inAt y l.be.toNat + l.le := by
    show (-inAt y l.be.toNat + -l.le < -inAt y l.af.toNat) ↔ _
    omega
  have f2 : (-inAt (lo1 l y) (lkNeg l).af.toNat + -(lkNeg l).le < -inAt (lo1 l y) (lkNeg l).be.toNat) ↔ inAt (lo1 l y) l.be.toNat < inAt (lo1 l y) l.af.toNat + -l.mo := by
    show (-inAt (lo1 l y) l.af.toNat + - -l.mo < -inAt (lo1 l y) l.be.toNat) ↔ _
    omega
  rw [f1, f2]
theorem loTo_ge (ls : List Lk) (x : List Int) (i : Nat) {j : Nat} (h : j ≤ ls.length) : inAt x i ≤ inAt (loTo ls x j) i := by
  rw [loTo_neg _ _ _ h, inAt_neg]
  have := upTo_le (ls.map lkNeg) (negL x) i j
  rw [inAt_neg] at this
  omega
end Go.Proofs.YtbddkmlfjghllaaGreatDoor

/- Choices of a network: in the program's order and by their numbers. Plain Lean. -/
namespace Go.Proofs.YtbddkmlfjghllaaGreatDoor
set_option linter.unusedVariables false
set_option linter.unusedSimpArgs false

def IsCh : List (List Sp) → List Sp → Prop
  | [], [] => True
  | s :: r, x :: c => x ∈ s ∧ IsCh r c
  | _, _ => False
theorem IsCh.len : ∀ {l : List (List Sp)} {c : List Sp}, IsCh l c → c.length = l.length
  | [], [], _ => rfl
  | _ :: _, _ :: _, h => by simp [IsCh.len h.2]
  | [], _ :: _, h => absurd h (by simp [IsCh])
  | _ :: _, [], h => absurd h (by simp [IsCh])
theorem IsCh.mem : ∀ {l : List (List Sp)} {c : List Sp}, IsCh l c → ∀ i, i < c.length → spAt c i ∈ setAt l i
  | [], [], _, i, hi => absurd hi (by simp)
  | s :: r, x :: c, h, 0, _ => h.1
  | s :: r, x :: c, h, i + 1, hi => IsCh.mem h.2 i (by simpa using hi)
  | [], _ :: _, h, _, _ => absurd h (by simp [IsCh])
  | _ :: _, [], h, _, _ => absurd h (by simp [IsCh])
theorem spAt_mem {l : List Sp} {i : Nat} (h : i < l.length) : spAt l i ∈ l := by
  unfold spAt
  rw [List.getD_eq_getElem?_getD, List.getElem?_eq_getElem h]
  exact List.getElem_mem h
theorem mem_spAt {l : List Sp} {x : Sp} (h : x ∈ l) : ∃ i, i < l.length ∧ spAt l i = x := by
  obtain ⟨i, hi, e⟩ := List.getElem_of_mem h
  refine ⟨i, hi, ?_⟩
  unfold spAt
  rw [List.getD_eq_getElem?_getD, List.getElem?_eq_getElem hi]
  exact e
/-- all spans of a network's choice are spans of days -/
theorem IsCh.ok {n : Net} {c : List Sp} (h : IsCh n.sets c) (hok : NetOk n) : SpsOk c := by
  intro i hi
  have hl := h.len
  obtain ⟨k, hk, e⟩ := mem_spAt (h.mem i hi)
  rw [← e]
  exact ((hok.2.2.1 i (by omega)).2 k hk).1

/-! ### by numbers -/
def prodN : List (List Sp) → Nat
  | [] => 1
  | s :: r => s.length * prodN r
def chN : List (List Sp) → Nat → List Sp
  | [], _ => []
  | s :: r, k => spAt s (k % s.length) :: chN r (k / s.length)
def nuTo (l : List (List Sp)) (k : Nat) : Nat → Nat
  | 0 => k
  | i + 1 => nuTo l k i / (setAt l i).length
theorem chN_len : ∀ (l : List (List Sp)) (k : Nat), (chN l k).length = l.length
  | [], _ => rfl
  | s :: r, k => by simp [chN, chN_len r]
theorem nuTo_cons (s : List Sp) (r : List (List Sp)) (k : Nat) : ∀ i, nuTo (s :: r) k (i + 1) = nuTo r (k / s.length) i
  | 0 => rfl
  | i + 1 => by
    show nuTo (s :: r) k (i + 1) / (setAt (s :: r) (i + 1)).length = nuTo r (k / s.length) i / (setAt r i).length
    rw [nuTo_cons s r k i]
    rfl
theorem chN_at : ∀ (l : List (List Sp)) (k i : Nat), i < l.length → spAt (chN l k) i = spAt (setAt l i) (nuTo l k i % (setAt l i).length)
  | [], _, _, h => absurd h (by simp)
  | s :: r, k, 0, _ => rfl
  | s :: r, k, i + 1, h => by
    rw [nuTo_cons]
    exact chN_at r (k / s.length) i (by simpa using h)
theorem nuTo_le (l : List (List Sp)) (k : Nat) : ∀ i, nuTo l k i ≤ k
  | 0 => Nat.le_refl _
  | i + 1 => Nat.le_trans (Nat.div_le_self _ _) (nuTo_le l k i)
theorem chN_isCh : ∀ (l : List (List Sp)) (k : Nat), k < prodN l → IsCh l (chN l k)
  | [], _, _ => trivial
  | s :: r, k, h => by
    have h0 : 0 < s.length := by
      rcases Nat.eq_zero_or_pos s.length with e | e
      · unfold prodN at h; rw [e] at h; simp at h
      · exact e
    refine ⟨spAt_mem (Nat.mod_lt _ h0), chN_isCh r _ ?_⟩
    unfold prodN at h
    exact Nat.div_lt_of_lt_mul h
theorem isCh_chN : ∀ {l : List (List Sp)} {c : List Sp}, IsCh l c → ∃ k, k < prodN l ∧ chN l k = c
  | [], [], _ => ⟨0, by simp [prodN], rfl⟩
  | s :: r, x :: c, h => by
    obtain ⟨i, hi, e⟩ := mem_spAt h.1
    obtain ⟨k, hk, e2⟩ := isCh_chN h.2
    refine ⟨i + s.length * k, ?_, ?_⟩
    · unfold prodN
      have : s.length * (k + 1) ≤ s.length * prodN r := Nat.mul_le_mul_left _ hk
      rw [Nat.mul_succ] at this
      omega
    · unfold chN
      rw [Nat.add_mul_mod_self_left, Nat.mod_eq_of_lt hi, e, Nat.add_mul_div_left _ _ (by omega), Nat.div_eq_of_lt hi, Nat.zero_add, e2]
  | [], _ :: _, h => absurd h (by simp [IsCh])
  | _ :: _, [], h => absurd h (by simp [IsCh])
theorem prodN_pos : ∀ {l : List (List Sp)}, (∀ i, i < l.length → (setAt l i).length ≠ 0) → 0 < prodN l
  | [], _ => by simp [prodN]
  | s :: r, h => by
    have h0 : s.length ≠ 0 := h 0 (by simp)
    have h1 := prodN_pos (l := r) (fun i hi => h (i + 1) (by simp; omega))
    unfold prodN
    exact Nat.mul_pos (by omega) h1
theorem prodN_zero : ∀ {l : List (List Sp)} {i : Nat}, i < l.length → (setAt l i).length = 0 → prodN l = 0
  | [], _, h, _ => absurd h (by simp)
  | s :: r, 0, _, h => by
    have h0 : s.length = 0 := h
    unfold prodN
    rw [h0, Nat.zero_mul]
  | s :: r, i + 1, hi, h => by
    unfold prodN
    rw [prodN_zero (l := r) (i := i) (by simpa using hi) h, Nat.mul_zero]
/-- the product of the first i -/
theorem prodN_snoc : ∀ (l : List (List Sp)) (s : List Sp), prodN (l ++ [s]) = prodN l * s.length
  | [], s => by simp [prodN]
  | t :: r, s => by
    show t.length * prodN (r ++ [s]) = t.length * prodN r * s.length
    rw [prodN_snoc r s, Nat.mul_assoc]
theorem prodTo_exact {m : Nat} {l : List (List Sp)} : ∀ i, i ≤ l.length → (∀ i, i < l.length → (setAt l i).length ≠ 0) → prodTo m l i = min ((m : Int) + 1) (prodN (l.take i) : Int)
  | 0, _, _ => by simp [prodTo, prodN]; omega
  | i + 1, hi, h => by
    have ih := prodTo_exact (m := m) i (by omega) h
    have e : l.take (i + 1) = l.take i ++ [setAt l i] := by
      rw [List.take_succ_eq_append_getElem (by omega)]
      unfold setAt
      rw [List.getD_eq_getElem?_getD, List.getElem?_eq_getElem (by omega)]
      rfl
    rw [e, prodN_snoc]
    simp only [prodTo]
    rw [ih]
    have h0 := h i (by omega)
    have h3 : 1 ≤ ((setAt l i).length : Int) := by omega
    generalize prodN (l.take i) = q at *
    generalize (setAt l i).length = z at *
    push_cast
    rcases Int.le_total ((m : Int) + 1) (q : Int) with hq | hq
    · rw [Int.min_eq_left hq]
      have h4 : ((m : Int) + 1) * 1 ≤ ((m : Int) + 1) * z := Int.mul_le_mul_of_nonneg_left h3 (by omega)
      have h5 : ((m : Int) + 1) * z ≤ (q : Int) * z := Int.mul_le_mul_of_nonneg_right hq (by omega)
      rw [Int.min_eq_left (by omega), Int.min_eq_left (by omega)]
    · rw [Int.min_eq_right hq]
theorem choN_exact {m : Nat} {l : List (List Sp)} (h : choN m l ≤ m) : choN m l = (prodN l : Int) := by
  by_cases h0 : ∃ i, i < l.length ∧ (setAt l i).length = 0
  · obtain ⟨i, hi, e⟩ := h0
    rw [choN_zero hi e, prodN_zero hi e]
    rfl
  · have h' : ∀ i, i < l.length → (setAt l i).length ≠ 0 := fun i hi e => h0 ⟨i, hi, e⟩
    rw [choN_prod h'] at h ⊢
    rw [prodTo_exact l.length (Nat.le_refl _) h', List.take_length] at h ⊢
    omega

/-! ### in the program's order -/
def allCh : List (List Sp) → List Sp → List (List Sp)
  | [], pre => [pre]
  | s :: r, pre => s.flatMap (fun x => allCh r (pre ++ [x]))
theorem mem_allCh : ∀ {l : List (List Sp)} {pre c : List Sp}, c ∈ allCh l pre ↔ ∃ t, IsCh l t ∧ c = pre ++ t
  | [], pre, c => by
    constructor
    · intro h
      exact ⟨[], trivial, by simpa [allCh] using h⟩
    · rintro ⟨t, h1, h2⟩
      have : t = [] := List.eq_nil_of_length_eq_zero h1.len
      subst this
      simpa [allCh] using h2
  | s :: r, pre, c => by
    unfold allCh
    rw [List.mem_flatMap]
    constructor
    · rintro ⟨x, hx, h⟩
      obtain ⟨t, h1, h2⟩ := mem_allCh.1 h
      exact ⟨x :: t, ⟨hx, h1⟩, by rw [h2]; simp⟩
    · rintro ⟨t, h1, h2⟩
      match t, h1 with
      | x :: t, h1 => exact ⟨x, h1.1, mem_allCh.2 ⟨t, h1.2, by rw [h2]; simp⟩⟩

/-- the network has a solution: a choice of it has one -/
def Sol (n : Net) : Prop := ∃ ch, IsCh n.sets ch ∧ ChOk n.links ch
theorem sol_num (n : Net) : Sol n ↔ ∃ k, k < prodN n.sets ∧ ChOk n.links (chN n.sets k) := by
  constructor
  · rintro ⟨ch, h1, h2⟩
    obtain ⟨k, hk, e⟩ := isCh_chN h1
    exact ⟨k, hk, by rw [e]; exact h2⟩
  · rintro ⟨k, hk, h⟩
    exact ⟨_, chN_isCh _ _ hk, h⟩
theorem sol_all (n : Net) : Sol n ↔ ∃ ch, ch ∈ allCh n.sets [] ∧ ChOk n.links ch := by
  constructor
  · rintro ⟨ch, h1, h2⟩
    exact ⟨ch, mem_allCh.2 ⟨ch, h1, rfl⟩, h2⟩
  · rintro ⟨ch, h1, h2⟩
    obtain ⟨t, h3, e⟩ := mem_allCh.1 h1
    have : ch = t := e
    subst this
    exact ⟨ch, h3, h2⟩
end Go.Proofs.YtbddkmlfjghllaaGreatDoor
