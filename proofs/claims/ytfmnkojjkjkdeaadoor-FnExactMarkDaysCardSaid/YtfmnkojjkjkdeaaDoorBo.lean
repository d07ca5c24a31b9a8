/- The least and the greatest days within a choice of spans: what rounds over the links leave, and when they end. Plain Lean. -/
import Derived.Test.YtfmnkojjkjkdeaaDoorUp
namespace Go.Proofs.YtfmnkojjkjkdeaaDoor
set_option linter.unusedVariables false
set_option linter.unusedSimpArgs false

/-! ### rows of rounds from any start -/
theorem upX_low' {ls : List Lk} {x : List Int} {B : Int} (h : LksOk ls x.length) (hl : ls.length ≤ 21) (h0 : ∀ i, i < x.length → B ≤ inAt x i) : ∀ (r : Nat) i, i < x.length → B - 30680958 * (r : Int) ≤ inAt (upX ls x r) i
  | 0, i, hi => by have := h0 i hi; show _ ≤ inAt x i; omega
  | r + 1, i, hi => by
    have ih := upX_low' h hl h0 r
    have := upTo_low h (x := upX ls x r) ih ls.length (Nat.le_refl _) i hi
    show _ ≤ inAt (upTo ls (upX ls x r) ls.length) i
    omega
theorem upX_high' {ls : List Lk} {x : List Int} {B : Int} (h0 : ∀ i, i < x.length → inAt x i ≤ B) : ∀ (r : Nat) i, i < x.length → inAt (upX ls x r) i ≤ B
  | 0, i, hi => h0 i hi
  | r + 1, i, hi => Int.le_trans (upTo_le _ _ _ _) (upX_high' h0 r i hi)
/-- the end of the rounds depends on the constraints alone -/
theorem upV_congr {ls ls' : List Lk} {x : List Int} (h : LksOk ls x.length) (h' : LksOk ls' x.length) (hc : ∀ u v c, LkC ls u v c ↔ LkC ls' u v c) (hok : UpOk ls x) : upV ls x = upV ls' x := by
  obtain ⟨p, hp, h0⟩ := hok
  have hf : ∀ q, Feas (LkC ls) q ↔ Feas (LkC ls') q := fun q => ⟨fun hq u v c hh => hq u v c ((hc u v c).2 hh), fun hq u v c hh => hq u v c ((hc u v c).1 hh)⟩
  obtain ⟨P, hP1, hP2, hP3, _, hP5⟩ := (upX_rounds h rfl).ends hp h0
  obtain ⟨P', hQ1, hQ2, hQ3, _, hQ5⟩ := (upX_rounds h' rfl).ends ((hf p).1 hp) h0
  unfold upV
  refine list_ext (by rw [upX_len, upX_len]) (fun i hi => ?_)
  rw [upX_len] at hi
  have e1 := hP5 x.length (by omega) i hi
  have e2 := hQ5 x.length (by omega) i hi
  have e3 := hP3 P' ((hf P').2 hQ1) hQ2 i hi
  have e4 := hQ3 P ((hf P).1 hP1) hP2 i hi
  omega
/-- what the rounds leave fulfils all, and is the greatest -/
theorem upV_best {ls : List Lk} {x : List Int} (h : LksOk ls x.length) (hok : UpOk ls x) :
    Feas (LkC ls) (inAt (upV ls x)) ∧ (∀ i, i < x.length → inAt (upV ls x) i ≤ inAt x i) ∧ ∀ q, Feas (LkC ls) q → (∀ i, i < x.length → q i ≤ inAt x i) → ∀ i, i < x.length → q i ≤ inAt (upV ls x) i := by
  have hst : upX ls x (x.length + 1) = upX ls x x.length := upX_ends h hok (by omega) (by omega)
  have H := upX_rounds h rfl
  have hs : Feas (LkC ls) (fun i => inAt (upX ls x x.length) i) := H.still (r := x.length) (fun i _ => by show inAt (upX ls x (x.length + 1)) i = inAt (upX ls x x.length) i; rw [hst])
  refine ⟨hs, fun i hi => H.anti (Nat.zero_le _) hi, fun q hq hq0 i hi => H.above hq hq0 _ i hi⟩

/-! ### links read backwards, and lists with their signs turned -/
def lkNeg (l : Lk) : Lk := ⟨l.be, l.af, -l.mo, -l.le⟩
def lkRev (l : Lk) : Lk := ⟨l.af, l.be, -l.mo, -l.le⟩
def negL (x : List Int) : List Int := x.map (fun a => -a)
theorem negL_len (x : List Int) : (negL x).length = x.length := by simp [negL]
theorem inAt_neg (x : List Int) (i : Nat) : inAt (negL x) i = -inAt x i := by
  unfold inAt negL
  rw [List.getD_eq_getElem?_getD, List.getD_eq_getElem?_getD, List.getElem?_map]
  cases x[i]? <;> simp
theorem negL_negL (x : List Int) : negL (negL x) = x := by
  refine list_ext (by rw [negL_len, negL_len]) (fun i hi => by rw [inAt_neg, inAt_neg]; omega)
theorem negL_set (x : List Int) (v : Nat) (a : Int) : negL (x.set v a) = (negL x).set v (-a) := by
  unfold negL; rw [List.map_set]
theorem lkAt_map (f : Lk → Lk) (ls : List Lk) {j : Nat} (hj : j < ls.length) : lkAt (ls.map f) j = f (lkAt ls j) := by
  unfold lkAt
  simp [List.getD_eq_getElem?_getD, hj]
theorem LksOk.neg {ls : List Lk} {n : Nat} (h : LksOk ls n) : LksOk (ls.map lkNeg) n := by
  intro j hj
  have hj' : j < ls.length := by simpa using hj
  rw [lkAt_map _ _ hj']
  obtain ⟨a1, a2, a3, ⟨a4, a5⟩, ⟨a6, a7⟩, a8⟩ := h j hj'
  exact ⟨a1, a2, a3, ⟨by show -730499 ≤ -_; omega, by show -_ ≤ (730499 : Int); omega⟩, ⟨by show -730499 ≤ -_; omega, by show -_ ≤ (730499 : Int); omega⟩, by show -_ ≤ -_; omega⟩
theorem LksOk.rev {ls : List Lk} {n : Nat} (h : LksOk ls n) : LksOk (ls.map lkRev) n := by
  intro j hj
  have hj' : j < ls.length := by simpa using hj
  rw [lkAt_map _ _ hj']
  obtain ⟨a1, a2, a3, ⟨a4, a5⟩, ⟨a6, a7⟩, a8⟩ := h j hj'
  exact ⟨a2, a1, fun e => a3 e.symm, ⟨by show -730499 ≤ -_; omega, by show -_ ≤ (730499 : Int); omega⟩, ⟨by show -730499 ≤ -_; omega, by show -_ ≤ (730499 : Int); omega⟩, by show -_ ≤ -_; omega⟩
theorem lkC_rev {ls : List Lk} (u v : Nat) (c : Int) : LkC ls u v c ↔ LkC (ls.map lkRev) u v c := by
  constructor
  · rintro ⟨j, hj, hh⟩
    refine ⟨j, by simpa using hj, ?_⟩
    rw [lkAt_map _ _ hj]
    rcases hh with ⟨h1, h2, h3⟩ | ⟨h1, h2, h3⟩
    · exact .inr ⟨h1, h2, by show c = - -_; omega⟩
    · exact .inl ⟨h1, h2, h3⟩
  · rintro ⟨j, hj, hh⟩
    have hj' : j < ls.length := by simpa using hj
    rw [lkAt_map _ _ hj'] at hh
    refine ⟨j, hj', ?_⟩
    rcases hh with ⟨h1, h2, h3⟩ | ⟨h1, h2, h3⟩
    · exact .inr ⟨h1, h2, h3⟩
    · exact .inl ⟨h1, h2, by have : c = - -(lkAt ls j).mo := h3; omega⟩
theorem feas_neg {ls : List Lk} {p : Nat → Int} : Feas (LkC (ls.map lkNeg)) p ↔ Feas (LkC ls) (fun i => -p i) := by
  constructor
  · rintro h u v c ⟨j, hj, hh⟩
    have hl : j < (ls.map lkNeg).length := by simpa using hj
    rcases hh with ⟨rfl, rfl, rfl⟩ | ⟨rfl, rfl, rfl⟩
    · have := h (lkAt ls j).af.toNat (lkAt ls j).be.toNat (lkAt ls j).mo ⟨j, hl, .inr (by rw [lkAt_map _ _ hj]; exact ⟨rfl, rfl, by show _ = - -_; omega⟩)⟩
      show -_ ≤ -_ + _
      omega
    · have := h (lkAt ls j).be.toNat (lkAt ls j).af.toNat (-(lkAt ls j).le) ⟨j, hl, .inl (by rw [lkAt_map _ _ hj]; exact ⟨rfl, rfl, rfl⟩)⟩
      show -_ ≤ -_ + _
      omega
  · rintro h u v c ⟨j, hj, hh⟩
    have hj' : j < ls.length := by simpa using hj
    rw [lkAt_map _ _ hj'] at hh
    rcases hh with ⟨h1, h2, h3⟩ | ⟨h1, h2, h3⟩
    · have := h v u c ⟨j, hj', .inr ⟨h2, h1, h3⟩⟩
      simp only at this
      omega
    · have := h v u c ⟨j, hj', .inl ⟨h2, h1, by have : c = - -(lkAt ls j).mo := h3; omega⟩⟩
      simp only at this
      omega

/-! ### raising -/
def lift (x : List Int) (v u : Nat) (c : Int) : List Int := if inAt x v < inAt x u + c then x.set v (inAt x u + c) else x
theorem lift_yes {x : List Int} {v u : Nat} {c : Int} (h : inAt x v < inAt x u + c) : lift x v u c = x.set v (inAt x u + c) := if_pos h
theorem lift_no {x : List Int} {v u : Nat} {c : Int} (h : ¬ inAt x v < inAt x u + c) : lift x v u c = x := if_neg h
theorem lift_neg (x : List Int) (v u : Nat) (c : Int) : lift x v u c = negL (relax (negL x) v u (-c)) := by
  unfold lift relax
  rw [inAt_neg, inAt_neg]
  by_cases h : inAt x v < inAt x u + c
  · rw [if_pos h, if_pos (by omega), negL_set, negL_negL]
    congr 1; omega
  · rw [if_neg h, if_neg (by omega), negL_negL]
/-- both directions of a link, from below -/
def lo1 (l : Lk) (x : List Int) : List Int := lift x l.af.toNat l.be.toNat l.le
def lo2 (l : Lk) (x : List Int) : List Int := lift (lo1 l x) l.be.toNat l.af.toNat (-l.mo)
def loTo (ls : List Lk) (x : List Int) : Nat → List Int
  | 0 => x
  | j + 1 => lo2 (lkAt ls j) (loTo ls x j)
def loX (ls : List Lk) (x : List Int) : Nat → List Int
  | 0 => x
  | r + 1 => loTo ls (loX ls x r) ls.length
theorem lo1_neg (l : Lk) (x : List Int) : lo1 l x = negL (up1 (lkNeg l) (negL x)) := by unfold lo1 up1; rw [lift_neg]; rfl
theorem lo2_neg (l : Lk) (x : List Int) : lo2 l x = negL (up2 (lkNeg l) (negL x)) := by
  unfold lo2 up2
  rw [lift_neg, lo1_neg, negL_negL]
  rfl
theorem loTo_neg (ls : List Lk) (x : List Int) : ∀ j, j ≤ ls.length → loTo ls x j = negL (upTo (ls.map lkNeg) (negL x) j)
  | 0, _ => by show x = negL (negL x); rw [negL_negL]
  | j + 1, h => by
    show lo2 (lkAt ls j) (loTo ls x j) = negL (up2 (lkAt (ls.map lkNeg) j) (upTo (ls.map lkNeg) (negL x) j))
    rw [loTo_neg ls x j (by omega), lo2_neg, negL_negL, lkAt_map _ _ (by omega)]
theorem loX_neg (ls : List Lk) (x : List Int) : ∀ r, loX ls x r = negL (upX (ls.map lkNeg) (negL x) r)
  | 0 => by show x = negL (negL x); rw [negL_negL]
  | r + 1 => by
    show loTo ls (loX ls x r) ls.length = negL (upTo (ls.map lkNeg) (upX (ls.map lkNeg) (negL x) r) (ls.map lkNeg).length)
    rw [loTo_neg _ _ _ (Nat.le_refl _), loX_neg ls x r, negL_negL, List.length_map]
theorem lo1_len (l : Lk) (x : List Int) : (lo1 l x).length = x.length := by rw [lo1_neg, negL_len]; unfold up1; rw [relax_len, negL_len]
theorem lo2_len (l : Lk) (x : List Int) : (lo2 l x).length = x.length := by rw [lo2_neg, negL_len, up2_len, negL_len]
theorem loTo_len (ls : List Lk) (x : List Int) : ∀ j, (loTo ls x j).length = x.length
  | 0 => rfl
  | j + 1 => by unfold loTo; rw [lo2_len, loTo_len ls x j]
theorem loX_len (ls : List Lk) (x : List Int) (r : Nat) : (loX ls x r).length = x.length := by rw [loX_neg, negL_len, upX_len, negL_len]
theorem negL_inj {x y : List Int} : negL x = negL y ↔ x = y := ⟨fun h => by rw [← negL_negL x, h, negL_negL], fun h => by rw [h]⟩

/-! ### choices -/
def tosL (ch : List Sp) : List Int := ch.map (·.to)
def frsL (ch : List Sp) : List Int := ch.map (·.fr)
theorem tosL_len (ch : List Sp) : (tosL ch).length = ch.length := by simp [tosL]
theorem frsL_len (ch : List Sp) : (frsL ch).length = ch.length := by simp [frsL]
theorem inAt_tos (ch : List Sp) (i : Nat) : inAt (tosL ch) i = (spAt ch i).to := by
  unfold inAt tosL spAt
  rw [List.getD_eq_getElem?_getD, List.getD_eq_getElem?_getD, List.getElem?_map]
  cases ch[i]? <;> rfl
theorem inAt_frs (ch : List Sp) (i : Nat) : inAt (frsL ch) i = (spAt ch i).fr := by
  unfold inAt frsL spAt
  rw [List.getD_eq_getElem?_getD, List.getD_eq_getElem?_getD, List.getElem?_map]
  cases ch[i]? <;> rfl
/-- days that fulfil all links within a choice -/
def ChSol (ls : List Lk) (ch : List Sp) (p : Nat → Int) : Prop := Feas (LkC ls) p ∧ ∀ i, i < ch.length → (spAt ch i).fr ≤ p i ∧ p i ≤ (spAt ch i).to
def ChOk (ls : List Lk) (ch : List Sp) : Prop := ∃ p, ChSol ls ch p
def highV (ls : List Lk) (ch : List Sp) : List Int := upV ls (tosL ch)
def lowV (ls : List Lk) (ch : List Sp) : List Int := loX ls (frsL ch) ch.length
theorem highV_len (ls : List Lk) (ch : List Sp) : (highV ls ch).length = ch.length := by unfold highV upV; rw [upX_len, tosL_len]
theorem lowV_len (ls : List Lk) (ch : List Sp) : (lowV ls ch).length = ch.length := by unfold lowV; rw [loX_len, frsL_len]
theorem ChOk.up {ls : List Lk} {ch : List Sp} (h : ChOk ls ch) : UpOk ls (tosL ch) := by
  obtain ⟨p, h1, h2⟩ := h
  exact ⟨p, h1, fun i hi => by rw [tosL_len] at hi; rw [inAt_tos]; exact (h2 i hi).2⟩
theorem ChOk.lo {ls : List Lk} {ch : List Sp} (h : ChOk ls ch) : UpOk (ls.map lkNeg) (negL (frsL ch)) := by
  obtain ⟨p, h1, h2⟩ := h
  refine ⟨fun i => -p i, feas_neg.2 (by simpa using h1), fun i hi => ?_⟩
  rw [negL_len, frsL_len] at hi
  rw [inAt_neg, inAt_frs]
  have := (h2 i hi).1
  show -p i ≤ _
  omega
theorem ChOk.high {ls : List Lk} {ch : List Sp} (hl : LksOk ls ch.length) (h : ChOk ls ch) : ChSol ls ch (inAt (highV ls ch)) ∧ ∀ p, ChSol ls ch p → ∀ i, i < ch.length → p i ≤ inAt (highV ls ch) i := by
  obtain ⟨b1, b2, b3⟩ := upV_best (by rw [tosL_len]; exact hl) h.up
  rw [tosL_len] at b2 b3
  have hg : ∀ p, ChSol ls ch p → ∀ i, i < ch.length → p i ≤ inAt (highV ls ch) i := fun p hp => b3 p hp.1 (fun i hi => by rw [inAt_tos]; exact (hp.2 i hi).2)
  refine ⟨⟨b1, fun i hi => ⟨?_, by have := b2 i hi; rwa [inAt_tos] at this⟩⟩, hg⟩
  obtain ⟨p, hp⟩ := h
  exact Int.le_trans (hp.2 i hi).1 (hg p hp i hi)
theorem ChOk.low {ls : List Lk} {ch : List Sp} (hl : LksOk ls ch.length) (h : ChOk ls ch) : ChSol ls ch (inAt (lowV ls ch)) ∧ ∀ p, ChSol ls ch p → ∀ i, i < ch.length → inAt (lowV ls ch) i ≤ p i := by
  have hlen : (negL (frsL ch)).length = ch.length := by rw [negL_len, frsL_len]
  obtain ⟨b1, b2, b3⟩ := upV_best (by rw [hlen]; exact hl.neg) h.lo
  have e : ∀ i, inAt (lowV ls ch) i = -inAt (upV (ls.map lkNeg) (negL (frsL ch))) i := fun i => by unfold lowV upV; rw [loX_neg, inAt_neg, hlen]
  rw [hlen] at b2 b3
  have hg : ∀ p, ChSol ls ch p → ∀ i, i < ch.length → inAt (lowV ls ch) i ≤ p i := by
    intro p hp i hi
    have := b3 (fun i => -p i) (feas_neg.2 (by simpa using hp.1)) (fun i hi => by rw [inAt_neg, inAt_frs]; have := (hp.2 i hi).1; omega) i hi
    rw [e]
    have this' : -p i ≤ _ := this
    omega
  refine ⟨⟨?_, fun i hi => ⟨?_, ?_⟩⟩, hg⟩
  · have := feas_neg.1 b1
    intro u v c hc
    have := this u v c hc
    rw [e, e]
    exact this
  · have := b2 i hi
    rw [inAt_neg, inAt_frs] at this
    rw [e]
    omega
  · obtain ⟨p, hp⟩ := h
    exact Int.le_trans (hg p hp i hi) (hp.2 i hi).2

/-! ### the rounds of a choice: ls for the low days, hs (the same links, or read backwards) for the high ones -/
section
variable {ls hs : List Lk} {ch : List Sp}
/-- hs says what ls says -/
def Alike (ls hs : List Lk) : Prop := ∀ u v c, LkC ls u v c ↔ LkC hs u v c
def Still2 (ls hs : List Lk) (ch : List Sp) (r : Nat) : Prop := loX ls (frsL ch) (r + 1) = loX ls (frsL ch) r ∧ upX hs (tosL ch) (r + 1) = upX hs (tosL ch) r
def Ne2 (ls hs : List Lk) (ch : List Sp) (r : Nat) : Prop := ∀ r', r' < r → ¬ Still2 ls hs ch r'
theorem Ne2.zero : Ne2 ls hs ch 0 := fun r' h => absurd h (by omega)
theorem Ne2.succ {r : Nat} (h : Ne2 ls hs ch r) (h2 : ¬ Still2 ls hs ch r) : Ne2 ls hs ch (r + 1) := by
  intro r' hr
  by_cases e : r' = r
  · subst e; exact h2
  · exact h r' (by omega)
theorem ChOk.alike (h : ChOk ls ch) (ha : Alike ls hs) : UpOk hs (tosL ch) := by
  obtain ⟨p, h1, h2⟩ := h.up
  exact ⟨p, fun u v c hc => h1 u v c ((ha u v c).2 hc), h2⟩
theorem still2_of_ok (hl : LksOk ls ch.length) (hh : LksOk hs ch.length) (ha : Alike ls hs) (h : ChOk ls ch) {r : Nat} (hr : ch.length ≤ r + 1) : Still2 ls hs ch r := by
  have hlen : (negL (frsL ch)).length = ch.length := by rw [negL_len, frsL_len]
  constructor
  · rw [loX_neg, loX_neg, upX_ends (by rw [hlen]; exact hl.neg) h.lo (r := r + 1) (r' := r) (by omega) (by omega)]
  · exact upX_ends (by rw [tosL_len]; exact hh) (h.alike ha) (by rw [tosL_len]; omega) (by rw [tosL_len]; omega)
theorem Ne2.bad (hl : LksOk ls ch.length) (hh : LksOk hs ch.length) (ha : Alike ls hs) {r : Nat} (h : Ne2 ls hs ch r) (hr : ch.length < r) : ¬ ChOk ls ch :=
  fun hok => h ch.length hr (still2_of_ok hl hh ha hok (by omega))
/-- in all rounds the low days stay below, and the high ones above, all that fulfils the links -/
theorem rounds_between (hl : LksOk ls ch.length) (hh : LksOk hs ch.length) (ha : Alike ls hs) {p : Nat → Int} (hp : ChSol ls ch p) (r : Nat) : ∀ i, i < ch.length → inAt (loX ls (frsL ch) r) i ≤ p i ∧ p i ≤ inAt (upX hs (tosL ch) r) i := by
  intro i hi
  have hlen : (negL (frsL ch)).length = ch.length := by rw [negL_len, frsL_len]
  have h1 := (upX_rounds (n := ch.length) hl.neg hlen).above (p := fun i => -p i) (feas_neg.2 (by simpa using hp.1)) (fun i hi => by show _ ≤ inAt (negL (frsL ch)) i; rw [inAt_neg, inAt_frs]; have := (hp.2 i hi).1; omega) r i hi
  have h2 := (upX_rounds (n := ch.length) hh (tosL_len ch)).above (p := p) (fun u v c hc => hp.1 u v c ((ha u v c).2 hc)) (fun i hi => by show _ ≤ inAt (tosL ch) i; rw [inAt_tos]; exact (hp.2 i hi).2) r i hi
  constructor
  · have h1' : -p i ≤ inAt (upX (ls.map lkNeg) (negL (frsL ch)) r) i := h1
    rw [loX_neg, inAt_neg]; omega
  · exact h2
/-- a round that changes nothing and crosses nothing has found all -/
theorem still2_ok (hl : LksOk ls ch.length) {r : Nat} (h : Still2 ls hs ch r) (hx : ∀ i, i < ch.length → inAt (loX ls (frsL ch) r) i ≤ (spAt ch i).to) : ChOk ls ch := by
  have hlen : (negL (frsL ch)).length = ch.length := by rw [negL_len, frsL_len]
  have H := upX_rounds (n := ch.length) hl.neg hlen
  have e : upX (ls.map lkNeg) (negL (frsL ch)) (r + 1) = upX (ls.map lkNeg) (negL (frsL ch)) r := by
    have := h.1
    rw [loX_neg, loX_neg] at this
    exact negL_inj.1 this
  have hs := H.still (r := r) (fun i _ => by show inAt (upX _ _ (r + 1)) i = inAt (upX _ _ r) i; rw [e])
  refine ⟨inAt (loX ls (frsL ch) r), ?_, fun i hi => ⟨?_, hx i hi⟩⟩
  · have := feas_neg.1 hs
    intro u v c hc
    have := this u v c hc
    rw [loX_neg, inAt_neg, inAt_neg]
    exact this
  · have h1 := H.anti (Nat.zero_le r) hi
    have h1' : inAt (upX (ls.map lkNeg) (negL (frsL ch)) r) i ≤ inAt (negL (frsL ch)) i := h1
    rw [inAt_neg, inAt_frs] at h1'
    rw [loX_neg, inAt_neg]
    omega
theorem still2_vals (hl : LksOk ls ch.length) (hh : LksOk hs ch.length) (ha : Alike ls hs) (hok : ChOk ls ch) {r : Nat} (h : Still2 ls hs ch r) : loX ls (frsL ch) r = lowV ls ch ∧ upX hs (tosL ch) r = highV ls ch := by
  have hlen : (negL (frsL ch)).length = ch.length := by rw [negL_len, frsL_len]
  constructor
  · have e : upX (ls.map lkNeg) (negL (frsL ch)) (r + 1) = upX (ls.map lkNeg) (negL (frsL ch)) r := by
      have := h.1
      rw [loX_neg, loX_neg] at this
      exact negL_inj.1 this
    have := upV_of_still (by rw [hlen]; exact hl.neg) e
    unfold lowV
    rw [loX_neg, loX_neg, this]
    unfold upV
    rw [hlen]
  · rw [upV_of_still (by rw [tosL_len]; exact hh) h.2]
    unfold highV
    exact (upV_congr (by rw [tosL_len]; exact hl) (by rw [tosL_len]; exact hh) ha hok.up).symm
/-- the reference's test behind a round -/
def CrossS (ls hs : List Lk) (ch : List Sp) (r i : Nat) : Prop := (spAt ch i).to < inAt (loX ls (frsL ch) r) i ∨ inAt (upX hs (tosL ch) r) i < (spAt ch i).fr
theorem crossS_bad (hl : LksOk ls ch.length) (hh : LksOk hs ch.length) (ha : Alike ls hs) {r i : Nat} (hi : i < ch.length) (h : CrossS ls hs ch r i) : ¬ ChOk ls ch := by
  rintro ⟨p, hp⟩
  have h1 := rounds_between hl hh ha hp r i hi
  have h2 := hp.2 i hi
  rcases h with h | h <;> omega
/-- the program's test behind a round -/
def CrossI (ls hs : List Lk) (ch : List Sp) (r i : Nat) : Prop := inAt (upX hs (tosL ch) r) i < inAt (loX ls (frsL ch) r) i
theorem crossI_bad (hl : LksOk ls ch.length) (hh : LksOk hs ch.length) (ha : Alike ls hs) {r i : Nat} (hi : i < ch.length) (h : CrossI ls hs ch r i) : ¬ ChOk ls ch := by
  rintro ⟨p, hp⟩
  have h1 := rounds_between hl hh ha hp r i hi
  unfold CrossI at h
  omega
theorem crossI_free {r : Nat} (h : ∀ i, i < ch.length → ¬ CrossI ls hs ch r i) : ∀ i, i < ch.length → inAt (loX ls (frsL ch) r) i ≤ (spAt ch i).to := by
  intro i hi
  have h1 := h i hi
  unfold CrossI at h1
  have h2 : inAt (upX hs (tosL ch) r) i ≤ inAt (tosL ch) i := by
    have : ∀ r, inAt (upX hs (tosL ch) r) i ≤ inAt (tosL ch) i := by
      intro r
      induction r with
      | zero => exact Int.le_refl _
      | succ r ih => exact Int.le_trans (upTo_le _ _ _ _) ih
    exact this r
  rw [inAt_tos] at h2
  omega
theorem crossS_free {r : Nat} (h : ∀ i, i < ch.length → ¬ CrossS ls hs ch r i) : ∀ i, i < ch.length → inAt (loX ls (frsL ch) r) i ≤ (spAt ch i).to := by
  intro i hi
  have h1 := h i hi
  unfold CrossS at h1
  omega
end
theorem alike_refl (ls : List Lk) : Alike ls ls := fun _ _ _ => Iff.rfl
theorem alike_rev (ls : List Lk) : Alike ls (ls.map lkRev) := lkC_rev

/-! ### bounds for the machine's numbers, and the mark 'changed' -/
def SpsOk (ch : List Sp) : Prop := ∀ i, i < ch.length → SpOk (spAt ch i)
theorem hi_bnd {hs : List Lk} {ch : List Sp} {r j : Nat} (h : LksOk hs ch.length) (hc : SpsOk ch) (hn : ch.length ≤ 8) (hl : hs.length ≤ 21) (hr : r ≤ ch.length + 2) (hj : j ≤ hs.length) (i : Nat) (hi : i < ch.length) :
    -500000000 ≤ inAt (upTo hs (upX hs (tosL ch) r) j) i ∧ inAt (upTo hs (upX hs (tosL ch) r) j) i ≤ 730499 := by
  have hlen := tosL_len ch
  have h0 := upX_low' (B := 0) (x := tosL ch) (by rw [hlen]; exact h) hl (fun i hi => by rw [hlen] at hi; rw [inAt_tos]; exact (hc i hi).2.1.1) r
  rw [hlen] at h0
  have h1 := upTo_low h h0 j hj i hi
  have h2 := upTo_le hs (upX hs (tosL ch) r) i j
  have h3 := upX_high' (ls := hs) (x := tosL ch) (B := 730499) (fun i hi => by rw [hlen] at hi; rw [inAt_tos]; exact (hc i hi).2.1.2) r i (by omega)
  omega
theorem lo_bnd {ls : List Lk} {ch : List Sp} {r j : Nat} (h : LksOk ls ch.length) (hc : SpsOk ch) (hn : ch.length ≤ 8) (hl : ls.length ≤ 21) (hr : r ≤ ch.length + 2) (hj : j ≤ ls.length) (i : Nat) (hi : i < ch.length) :
    0 ≤ inAt (loTo ls (loX ls (frsL ch) r) j) i ∧ inAt (loTo ls (loX ls (frsL ch) r) j) i ≤ 500000000 := by
  have hlen : (negL (frsL ch)).length = ch.length := by rw [negL_len, frsL_len]
  have hll : (ls.map lkNeg).length = ls.length := List.length_map _
  have h0 := upX_low' (B := -730499) (x := negL (frsL ch)) (by rw [hlen]; exact h.neg) (by omega) (fun i hi => by rw [hlen] at hi; rw [inAt_neg, inAt_frs]; have := (hc i hi).1.2; omega) r
  rw [hlen] at h0
  have h1 := upTo_low h.neg h0 j (by omega) i hi
  have h2 := upTo_le (ls.map lkNeg) (upX (ls.map lkNeg) (negL (frsL ch)) r) i j
  have h3 := upX_high' (ls := ls.map lkNeg) (x := negL (frsL ch)) (B := 0) (fun i hi => by rw [hlen] at hi; rw [inAt_neg, inAt_frs]; have := (hc i hi).1.1; omega) r i (by omega)
  rw [loTo_neg _ _ _ hj, loX_neg, negL_negL, inAt_neg]
  omega
theorem up1_bnd {l : Lk} {n : Nat} {y : List Int} (h : LkOk l n) (hb : ∀ i, i < n → -500000000 ≤ inAt y i ∧ inAt y i ≤ 730499) (i : Nat) (hi : i < n) : -600000000 ≤ inAt (up1 l y) i ∧ inAt (up1 l y) i ≤ 730499 := upTo_bnd1 h hb i hi
theorem lo1_bnd {l : Lk} {n : Nat} {y : List Int} (h : LkOk l n) (hb : ∀ i, i < n → 0 ≤ inAt y i ∧ inAt y i ≤ 500000000) (i : Nat) (hi : i < n) : 0 ≤ inAt (lo1 l y) i ∧ inAt (lo1 l y) i ≤ 600000000 := by
  obtain ⟨⟨l1, l2⟩, ⟨l3, l4⟩, _, ⟨l5, l6⟩, ⟨l7, l8⟩, _⟩ := h
  have h0 := hb i hi
  have h1 := hb l.be.toNat (by omega)
  unfold lo1 lift
  split
  · rw [inAt_set]
    split
    · rename_i h2 h3
      obtain ⟨h3, _⟩ := h3
      subst h3
      omega
    · omega
  · omega
theorem up_ne {l : Lk} {x y : List Int} {n : Nat} (h : LkOk l n) (hx : x.length = n) (hy : y.length = n) (hle : ∀ i, inAt y i ≤ inAt x i) :
    (y ≠ x ∨ inAt y l.be.toNat + l.mo < inAt y l.af.toNat ∨ inAt (up1 l y) l.af.toNat + -l.le < inAt (up1 l y) l.be.toNat) ↔ up2 l y ≠ x := by
  have := up2_ne h hx hy hle (b := B (y ≠ x)) B_iff
  rwa [B_iff] at this
theorem lo_ne {l : Lk} {x y : List Int} {n : Nat} (h : LkOk l n) (hx : x.length = n) (hy : y.length = n) (hle : ∀ i, inAt x i ≤ inAt y i) :
    (y ≠ x ∨ inAt y l.af.toNat < inAt y l.be.toNat + l.le ∨ inAt (lo1 l y) l.be.toNat < inAt (lo1 l y) l.af.toNat + -l.mo) ↔ lo2 l y ≠ x := by
  obtain ⟨a1, a2, a3, ⟨a4, a5⟩, ⟨a6, a7⟩, a8⟩ := h
  have hn : LkOk (lkNeg l) n := ⟨a1, a2, a3, ⟨by show -730499 ≤ -_; omega, by show -_ ≤ (730499 : Int); omega⟩, ⟨by show -730499 ≤ -_; omega, by show -_ ≤ (730499 : Int); omega⟩, by show -_ ≤ -_; omega⟩
  have := up_ne (x := negL x) (y := negL y) hn (by rw [negL_len, hx]) (by rw [negL_len, hy]) (fun i => by rw [inAt_neg, inAt_neg]; have := hle i; omega)
  have e1 : (negL y ≠ negL x) ↔ y ≠ x := not_congr negL_inj
  have e2 : (up2 (lkNeg l) (negL y) ≠ negL x) ↔ lo2 l y ≠ x := by
    rw [lo2_neg]
    refine not_congr ⟨fun h => by rw [h, negL_negL], fun h => by rw [← h, negL_negL]⟩
  have e3 : inAt (up1 (lkNeg l) (negL y)) = fun i => -inAt (lo1 l y) i := by
    funext i
    rw [lo1_neg, inAt_neg]; omega
  rw [e1, e2, inAt_neg, inAt_neg, e3] at this
  rw [← this]
  have f1 : (-inAt y (lkNeg l).be.toNat + (lkNeg l).mo < -inAt y (lkNeg l).af.toNat) ↔ inAt y l.af.toNat < inAt y l.be.toNat + l.le := by
    show (-inAt y l.be.toNat + -l.le < -inAt y l.af.toNat) ↔ _
    omega
  have f2 : (-inAt (lo1 l y) (lkNeg l).af.toNat + -(lkNeg l).le < -inAt (lo1 l y) (lkNeg l).be.toNat) ↔ inAt (lo1 l y) l.be.toNat < inAt (lo1 l y) l.af.toNat + -l.mo := by
    show (-inAt (lo1 l y) l.af.toNat + - -l.mo < -inAt (lo1 l y) l.be.toNat) ↔ _
    omega
  rw [f1, f2]
theorem loTo_ge (ls : List Lk) (x : List Int) (i : Nat) {j : Nat} (h : j ≤ ls.length) : inAt x i ≤ inAt (loTo ls x j) i := by
  rw [loTo_neg _ _ _ h, inAt_neg]
  have := upTo_le (ls.map lkNeg) (negL x) i j
  rw [inAt_neg] at this
  omega
end Go.Proofs.YtfmnkojjkjkdeaaDoor
