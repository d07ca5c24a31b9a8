/- Plain: marks as text: written, read by the program's way, read by the reference's. -/
import Derived.Test.YtbddkmlfjghllaaGreatDoorT1Jd
import Derived.Lib.Split
import Derived.Lib.ParseIntB
import Derived.Lib.ItoaNum
namespace Go.Proofs.YtbddkmlfjghllaaGreatDoor
set_option linter.unusedVariables false
set_option linter.unusedSimpArgs false

abbrev Bs := List UInt8
/-- a list cut at each byte c -/
def splL (c : UInt8) : Bs → List Bs
  | [] => [[]]
  | b :: r => if b = c then [] :: splL c r else match splL c r with
    | [] => [[b]]
    | x :: xs => (b :: x) :: xs
theorem splL_is (c : UInt8) (r : Bs) : splL c (c :: r) = [] :: splL c r := by rw [splL, if_pos rfl]
theorem splL_nt {c b : UInt8} (r : Bs) (h : b ≠ c) : splL c (b :: r) = match splL c r with
    | [] => [[b]]
    | x :: xs => (b :: x) :: xs := by rw [splL, if_neg h]
theorem splL_ne (c : UInt8) : ∀ s, splL c s ≠ []
  | [] => by simp [splL]
  | b :: r => by
    by_cases e : b = c
    · subst e; rw [splL_is]; simp
    · rw [splL_nt r e]
      split <;> simp
theorem splL_no {c : UInt8} : ∀ {s : Bs}, c ∉ s → splL c s = [s]
  | [], _ => rfl
  | b :: r, h => by
    have h1 : b ≠ c := fun e => h (by simp [e])
    have h2 := splL_no (c := c) (s := r) (fun e => h (by simp [e]))
    rw [splL_nt r h1, h2]
theorem splL_cut {c : UInt8} : ∀ {s : Bs} (t : Bs), c ∉ s → splL c (s ++ c :: t) = s :: splL c t
  | [], t, _ => splL_is c t
  | b :: r, t, h => by
    have h1 : b ≠ c := fun e => h (by simp [e])
    have h2 := splL_cut (c := c) (s := r) t (fun e => h (by simp [e]))
    show splL c (b :: (r ++ c :: t)) = _
    rw [splL_nt _ h1, h2]
theorem first_at {c : UInt8} : ∀ {s : Bs}, c ∈ s → ∃ a t, s = a ++ c :: t ∧ c ∉ a
  | [], h => absurd h (by simp)
  | b :: r, h => by
    by_cases e : b = c
    · subst e; exact ⟨[], r, rfl, by simp⟩
    · have hr : c ∈ r := by simpa [Ne.symm e] using h
      obtain ⟨a, t, rfl, h2⟩ := first_at hr
      exact ⟨b :: a, t, rfl, by simp; exact ⟨Ne.symm e, h2⟩⟩
def joinC (c : UInt8) : List Bs → Bs
  | [] => []
  | [x] => x
  | x :: y :: r => x ++ c :: joinC c (y :: r)
theorem joinC_splL (c : UInt8) : ∀ s, joinC c (splL c s) = s
  | [] => rfl
  | b :: r => by
    have ih := joinC_splL c r
    unfold splL
    split
    · rename_i e
      subst e
      cases h : splL b r with
      | nil => exact absurd h (splL_ne b r)
      | cons x xs => rw [h] at ih; show [] ++ b :: joinC b (x :: xs) = _; rw [ih]; rfl
    · cases h : splL c r with
      | nil => exact absurd h (splL_ne c r)
      | cons x xs =>
        rw [h] at ih
        cases xs with
        | nil => show b :: x = _; have : x = r := ih; rw [this]
        | cons y ys => show (b :: x) ++ c :: joinC c (y :: ys) = _; have : x ++ c :: joinC c (y :: ys) = r := ih; rw [← this]; rfl
theorem splL_join {c : UInt8} : ∀ {l : List Bs}, l ≠ [] → (∀ x ∈ l, c ∉ x) → splL c (joinC c l) = l
  | [], h, _ => absurd rfl h
  | [x], _, h => splL_no (h x (by simp))
  | x :: y :: r, _, h => by
    show splL c (x ++ c :: joinC c (y :: r)) = _
    rw [splL_cut _ (h x (by simp)), splL_join (by simp) (fun z hz => h z (by simp at hz ⊢; exact .inr hz))]

/-! ### The library's words at one byte -/
theorem idx_one (c : UInt8) : ∀ {s : Bs}, c ∉ s → Lib.index s [c] = -1
  | [], _ => rfl
  | b :: r, h => by
    have h1 : b ≠ c := fun e => h (by simp [e])
    have h2 := idx_one c (s := r) (fun e => h (by simp [e]))
    unfold Lib.index
    rw [h2]
    simp [List.isPrefixOf, Ne.symm h1]
theorem idx_cut (c : UInt8) : ∀ {s : Bs} (t : Bs), c ∉ s → Lib.index (s ++ c :: t) [c] = s.length
  | [], t, _ => by
    show Lib.index (c :: t) [c] = _
    unfold Lib.index
    simp [List.isPrefixOf]
  | b :: r, t, h => by
    have h1 : b ≠ c := fun e => h (by simp [e])
    have h2 := idx_cut c (s := r) t (fun e => h (by simp [e]))
    show Lib.index (b :: (r ++ c :: t)) [c] = _
    unfold Lib.index
    rw [h2]
    have : ((r.length : Int) == -1) = false := by rw [beq_eq_false_iff_ne]; omega
    simp [List.isPrefixOf, Ne.symm h1, this]
theorem splitK_splL (c : UInt8) : ∀ (k : Nat) (s : Bs), s.length < k → Lib.splitK [c] 0 (Lib.countFrom [c] k s) s = splL c s
  | 0, s, h => absurd h (by omega)
  | k + 1, s, h => by
    by_cases hc : c ∈ s
    · obtain ⟨a, t, rfl, ha⟩ := first_at hc
      have hi := idx_cut c t ha
      have hm : ¬ ((a.length : Int) == -1) = true := by rw [beq_iff_eq]; omega
      rw [splL_cut t ha]
      unfold Lib.countFrom
      rw [hi, if_neg hm, Nat.add_comm 1]
      unfold Lib.splitK
      rw [hi, if_neg hm]
      have e1 : ((a.length : Int)).toNat = a.length := Int.toNat_natCast _
      rw [e1, Nat.add_zero]
      have e2 : (a ++ c :: t).take a.length = a := by simp
      have e3 : (a ++ c :: t).drop (a.length + [c].length) = t := by
        rw [← List.drop_drop]
        simp
      rw [e2, e3]
      congr 1
      exact splitK_splL c k t (by simp at h; omega)
    · rw [splL_no hc]
      unfold Lib.countFrom
      rw [idx_one c hc]
      rfl
theorem split_splL (c : UInt8) (s : Bs) : Lib.split s [c] = splL c s := splitK_splL c _ s (by omega)
theorem cut_no {c : UInt8} {s : Bs} (h : c ∉ s) : Lib.cut s [c] = (s, [], false) := by unfold Lib.cut; rw [idx_one c h]; rfl
theorem cut_at {c : UInt8} {s : Bs} (t : Bs) (h : c ∉ s) : Lib.cut (s ++ c :: t) [c] = (s, t, true) := by
  unfold Lib.cut
  rw [idx_cut c t h, if_pos (by omega), Int.toNat_natCast]
  have e3 : (s ++ c :: t).drop (s.length + [c].length) = t := by
    rw [← List.drop_drop]
    simp
  rw [e3]
  simp
theorem cut_true {s sep a b : Bs} (h : Lib.cut s sep = (a, b, true)) : s = a ++ sep ++ b := by
  unfold Lib.cut at h
  split at h
  · rename_i h0
    injection h with h1 h2
    injection h2 with h2 _
    rcases Lib.index_spec s sep with ⟨e, _⟩ | ⟨i, e, hi, ho, _⟩
    · omega
    · rw [e, Int.toNat_natCast] at h1 h2
      have hp : sep <+: s.drop i := by
        have : sep.isPrefixOf (s.drop i) = true := ho
        exact List.isPrefixOf_iff_prefix.1 this
      obtain ⟨q, hq⟩ := hp
      have e2 : b = q := by
        rw [← h2, ← List.drop_drop, ← hq]
        simp
      rw [← h1, e2, List.append_assoc, hq, List.take_append_drop]
  · injection h with _ h2
    injection h2 with _ h2
    cases h2
/-- two dots behind digits -/
theorem idx_dots : ∀ {s : Bs} (t : Bs), (46 : UInt8) ∉ s → Lib.index (s ++ 46 :: 46 :: t) [46, 46] = s.length
  | [], t, _ => by
    show Lib.index (46 :: 46 :: t) [46, 46] = _
    unfold Lib.index
    simp [List.isPrefixOf]
  | b :: r, t, h => by
    have h1 : b ≠ 46 := fun e => h (by simp [e])
    have h2 := idx_dots (s := r) t (fun e => h (by simp [e]))
    show Lib.index (b :: (r ++ 46 :: 46 :: t)) [46, 46] = _
    unfold Lib.index
    rw [h2]
    have : ((r.length : Int) == -1) = false := by rw [beq_eq_false_iff_ne]; omega
    simp [List.isPrefixOf, Ne.symm h1, this]
theorem cut_dots {s : Bs} (t : Bs) (h : (46 : UInt8) ∉ s) : Lib.cut (s ++ 46 :: 46 :: t) [46, 46] = (s, t, true) := by
  unfold Lib.cut
  rw [idx_dots t h, if_pos (by omega), Int.toNat_natCast]
  have e3 : (s ++ 46 :: 46 :: t).drop (s.length + ([46, 46] : Bs).length) = t := by
    rw [← List.drop_drop]
    simp
  rw [e3]
  simp

/-! ### Numbers -/
theorem dig_all (n : Nat) : (∀ b ∈ Lib.decDigits n, 48 ≤ b.toNat ∧ b.toNat ≤ 57) ∧ Lib.decDigits n ≠ [] := by
  induction n using Nat.strongRecOn with
  | ind n ih =>
    by_cases h : n < 10
    · rw [Lib.decDigits_one h]
      refine ⟨fun b hb => ?_, by simp⟩
      simp only [List.mem_singleton] at hb
      subst hb
      rw [UInt8.toNat_ofNat']
      omega
    · rw [Lib.decDigits, dif_neg h]
      obtain ⟨h1, h2⟩ := ih (n / 10) (by omega)
      refine ⟨fun b hb => ?_, by simp⟩
      rw [List.mem_append] at hb
      rcases hb with hb | hb
      · exact h1 b hb
      · simp only [List.mem_singleton] at hb
        subst hb
        rw [UInt8.toNat_ofNat']
        omega
theorem dig_no (n : Nat) {c : UInt8} (hc : c.toNat < 48 ∨ 57 < c.toNat) : c ∉ Lib.decDigits n := fun h => by have := (dig_all n).1 c h; omega
theorem parse_dig {M : Nat} (n : Nat) (r : Bs) (hM : n ≤ M) (h : n ≤ 9223372036854775807) : Lib.parseUintM M 0 (Lib.decDigits n ++ r) = Lib.parseUintM M n r := by
  induction n using Nat.strongRecOn generalizing r with
  | ind n ih =>
    by_cases h10 : n < 10
    · rw [Lib.decDigits_one h10]
      have e : (UInt8.ofNat (48 + n)).toNat = 48 + n := by rw [UInt8.toNat_ofNat']; omega
      show Lib.parseUintM M 0 (_ :: r) = _
      rw [Lib.parseUintM]
      rw [e, if_pos (by omega), if_neg (by omega), if_neg (by omega)]
      congr 1
      omega
    · rw [Lib.decDigits, dif_neg h10, List.append_assoc, ih (n / 10) (by omega) _ (by omega) (by omega)]
      have e : (UInt8.ofNat (48 + n % 10)).toNat = 48 + n % 10 := by rw [UInt8.toNat_ofNat']; omega
      show Lib.parseUintM M (n / 10) (_ :: r) = _
      rw [Lib.parseUintM]
      rw [e, if_pos (by omega), if_neg (by omega), if_neg (by omega)]
      congr 1
      omega
theorem parse_dec {n : Nat} (h : n ≤ 9223372036854775807) : Lib.parseIntB 64 (Lib.decDigits n) = .ok (n : Int) := by
  have hd := dig_all n
  cases e : Lib.decDigits n with
  | nil => exact absurd e hd.2
  | cons c r =>
    have hc := hd.1 c (by rw [e]; simp)
    have hp := parse_dig (M := 2 ^ 64 - 1) n [] (by omega) h
    rw [List.append_nil, e] at hp
    unfold Lib.parseIntB
    simp only
    rw [if_neg (by omega)]
    unfold Lib.parseUintB
    rw [if_neg (by simp), hp]
    unfold Lib.parseUintM
    simp only
    have hn : ¬ c.toNat = 45 := by omega
    rw [if_neg (by intro hh; have := hh.2; omega), if_neg (fun hh => hn hh.1), if_neg hn]
/-- what 'number' reads -/
noncomputable def numO (s : Bs) : Option Nat := @ite _ (∃ n : Nat, n ≤ 9223372036854775807 ∧ s = Lib.decDigits n) (Classical.propDecidable _) (match Lib.parseIntB 64 s with | .ok v => some v.toNat | _ => none) none
theorem numO_dec {n : Nat} (h : n ≤ 9223372036854775807) : numO (Lib.decDigits n) = some n := by
  unfold numO
  rw [if_pos ⟨n, h, rfl⟩, parse_dec h]
  simp
theorem numO_some {s : Bs} {n : Nat} (h : numO s = some n) : n ≤ 9223372036854775807 ∧ s = Lib.decDigits n := by
  unfold numO at h
  split at h
  · rename_i hh
    obtain ⟨m, hm, rfl⟩ := hh
    rw [parse_dec hm] at h
    simp at h
    subst h
    exact ⟨hm, rfl⟩
  · cases h
theorem numO_none {s : Bs} (h : numO s = none) : ∀ n : Nat, n ≤ 9223372036854775807 → s ≠ Lib.decDigits n := fun n hn e => by subst e; rw [numO_dec hn] at h; cases h
/-- digits read with no care: the reference's -/
def plF (l : Bs) (acc : Nat) : Nat := l.foldl (fun n b => if 48 ≤ b.toNat ∧ b.toNat ≤ 57 then 10 * n + (b.toNat - 48) else n) acc
def plnN (l : Bs) : Nat := plF (l.take 9) 0
theorem pl_dig (n : Nat) : plF (Lib.decDigits n) 0 = n := by
  have h : ∀ n (r : Bs), plF (Lib.decDigits n ++ r) 0 = plF r n := by
    intro n
    induction n using Nat.strongRecOn with
    | ind n ih =>
      intro r
      by_cases h10 : n < 10
      · rw [Lib.decDigits_one h10]
        have e : (UInt8.ofNat (48 + n)).toNat = 48 + n := by rw [UInt8.toNat_ofNat']; omega
        show plF r (if _ then _ else _) = _
        rw [e, if_pos (by omega)]
        congr 1
        omega
      · rw [Lib.decDigits, dif_neg h10, List.append_assoc, ih (n / 10) (by omega)]
        have e : (UInt8.ofNat (48 + n % 10)).toNat = 48 + n % 10 := by rw [UInt8.toNat_ofNat']; omega
        show plF r (if _ then _ else _) = _
        rw [e, if_pos (by omega)]
        congr 1
        omega
  have := h n []
  rw [List.append_nil] at this
  rw [this]
  rfl
theorem dig_len : ∀ (k n : Nat), 1 ≤ k → n < 10 ^ k → (Lib.decDigits n).length ≤ k
  | 0, _, h, _ => absurd h (by omega)
  | k + 1, n, _, h => by
    by_cases h10 : n < 10
    · rw [Lib.decDigits_one h10]; simp
    · rw [Lib.decDigits, dif_neg h10]
      have hk : 1 ≤ k := by
        rcases k with _ | k
        · simp at h; omega
        · omega
      have := dig_len k (n / 10) hk (by rw [Nat.pow_succ] at h; omega)
      simp
      exact this
theorem pln_dec {n : Nat} (h : n < 1000000000) : plnN (Lib.decDigits n) = n := by
  unfold plnN
  rw [List.take_of_length_le (dig_len 9 n (by omega) h), pl_dig]

/-! ### One mark's text -/
def dd (n : Int) : Bs := Lib.decDigits n.toNat
def txM (m : Nsp) : Bs := m.nm.data.toList ++ 58 :: (dd m.fr ++ 46 :: 46 :: dd m.to)
def byL (l : Bs) : ByteArray := ⟨l.toArray⟩
theorem byL_list (l : Bs) : (byL l).data.toList = l := rfl
theorem byL_data (s : ByteArray) : byL s.data.toList = s := bytes_ext rfl
/-- the program's reading of a part -/
noncomputable def prI (p : Bs) : Option Nsp :=
  match Lib.cut p [58] with
  | (_, _, false) => none
  | (name, days, true) => match Lib.cut days [46, 46] with
    | (_, _, false) => none
    | (head, tail, true) => match numO head, numO tail with
      | some a, some b => some ⟨byL name, a, b⟩
      | _, _ => none
/-- the reference's -/
def lastL (l : List Bs) : Bs := l.getD (l.length - 1) []
def prS (p : Bs) : Nsp := ⟨byL ((splL 58 p).getD 0 []), plnN ((splL 46 (lastL (splL 58 p))).getD 0 []), plnN (lastL (splL 46 (lastL (splL 58 p))))⟩
theorem low_no {s : ByteArray} (h : LowB s) {c : UInt8} (hc : c.toNat < 97) : c ∉ s.data.toList := fun hh => by have := (lowB_list s).1 h c hh; omega
theorem txM_no {m : Nsp} (h : NspOk m) : (44 : UInt8) ∉ txM m := by
  have h1 := low_no h.1.2.2 (c := 44) (by decide)
  have h2 := dig_no m.fr.toNat (c := 44) (by decide)
  have h3 := dig_no m.to.toNat (c := 44) (by decide)
  unfold txM dd
  simp only [List.mem_append, List.mem_cons, not_or]
  exact ⟨h1, by decide, h2, by decide, by decide, h3⟩
theorem nat_day {n : Int} (h : DayOk n) : ((n.toNat : Nat) : Int) = n ∧ n.toNat < 1000000000 ∧ n.toNat ≤ 9223372036854775807 := by
  obtain ⟨h1, h2⟩ := h
  omega
theorem prI_tx {m : Nsp} (h : NspOk m) : prI (txM m) = some m := by
  obtain ⟨⟨_, _, hn⟩, hf, ht, _⟩ := h
  have h1 := low_no hn (c := 58) (by decide)
  have h2 := dig_no m.fr.toNat (c := 46) (by decide)
  unfold prI txM
  rw [cut_at _ h1]
  simp only
  rw [show dd m.fr ++ 46 :: 46 :: dd m.to = Lib.decDigits m.fr.toNat ++ 46 :: 46 :: dd m.to from rfl, cut_dots _ h2]
  simp only
  rw [numO_dec (nat_day hf).2.2, show dd m.to = Lib.decDigits m.to.toNat from rfl, numO_dec (nat_day ht).2.2]
  simp only
  rw [byL_data, (nat_day hf).1, (nat_day ht).1]
theorem prI_some {p : Bs} {m : Nsp} (h : prI p = some m) : p = txM m ∧ 0 ≤ m.fr ∧ 0 ≤ m.to := by
  unfold prI at h
  split at h
  · cases h
  · rename_i name days hc
    split at h
    · cases h
    · rename_i head tail hd
      split at h
      · rename_i a b ha hb
        injection h with h
        subst h
        have e1 := cut_true hc
        have e2 := cut_true hd
        have e3 := (numO_some ha).2
        have e4 := (numO_some hb).2
        refine ⟨?_, by show (0 : Int) ≤ (a : Int); omega, by show (0 : Int) ≤ (b : Int); omega⟩
        unfold txM dd
        rw [e1, e2]
        show _ = (byL name).data.toList ++ 58 :: (Lib.decDigits ((a : Int)).toNat ++ 46 :: 46 :: Lib.decDigits ((b : Int)).toNat)
        rw [byL_list, Int.toNat_natCast, Int.toNat_natCast, ← e3, ← e4]
        simp
      · cases h
theorem prS_tx {m : Nsp} (h : NspOk m) : prS (txM m) = m := by
  obtain ⟨⟨_, _, hn⟩, hf, ht, _⟩ := h
  have h1 := low_no hn (c := 58) (by decide)
  have h2 := dig_no m.fr.toNat (c := 46) (by decide)
  have h3 := dig_no m.to.toNat (c := 46) (by decide)
  have h4 : (58 : UInt8) ∉ dd m.fr ++ 46 :: 46 :: dd m.to := by
    unfold dd
    simp only [List.mem_append, List.mem_cons, not_or]
    exact ⟨dig_no _ (by decide), by decide, by decide, dig_no _ (by decide)⟩
  have e1 : splL 58 (txM m) = [m.nm.data.toList, dd m.fr ++ 46 :: 46 :: dd m.to] := by
    unfold txM
    rw [splL_cut _ h1, splL_no h4]
  have e2 : splL 46 (dd m.fr ++ 46 :: 46 :: dd m.to) = [dd m.fr, [], dd m.to] := by
    rw [show dd m.fr = Lib.decDigits m.fr.toNat from rfl, splL_cut _ h2]
    congr 1
    show splL 46 ([] ++ 46 :: dd m.to) = _
    rw [splL_cut _ (by simp), show dd m.to = Lib.decDigits m.to.toNat from rfl, splL_no h3]
  unfold prS
  rw [e1]
  have e3 : lastL [m.nm.data.toList, dd m.fr ++ 46 :: 46 :: dd m.to] = dd m.fr ++ 46 :: 46 :: dd m.to := rfl
  rw [e3, e2]
  have e4 : lastL [dd m.fr, [], dd m.to] = dd m.to := rfl
  rw [e4]
  show (⟨byL m.nm.data.toList, plnN (Lib.decDigits m.fr.toNat), plnN (Lib.decDigits m.to.toNat)⟩ : Nsp) = m
  rw [byL_data, pln_dec (nat_day hf).2.1, pln_dec (nat_day ht).2.1, (nat_day hf).1, (nat_day ht).1]

/-! ### All of it -/
def txL (l : List Nsp) : Bs := if l = [] then [45] else joinC 44 (l.map txM)
/-- the program's reading of all parts, as far as they can be read -/
noncomputable def prIs : List Bs → Option (List Nsp)
  | [] => some []
  | p :: r => match prI p, prIs r with
    | some m, some l => some (m :: l)
    | _, _ => none
theorem mks_all {l : List Nsp} (h : MksOk l) : ∀ m ∈ l, NspOk m := fun m hm => by
  obtain ⟨i, hi, e⟩ := mem_nsp.1 hm
  have := (h.2 i hi).1
  rwa [e] at this
theorem prIs_tx : ∀ {l : List Nsp}, (∀ m ∈ l, NspOk m) → prIs (l.map txM) = some l
  | [], _ => rfl
  | m :: r, h => by
    show (match prI (txM m), prIs (r.map txM) with | some m, some l => some (m :: l) | _, _ => none) = _
    rw [prI_tx (h m (by simp)), prIs_tx (fun x hx => h x (by simp [hx]))]
theorem prIs_some : ∀ {ps : List Bs} {l : List Nsp}, prIs ps = some l → ps = l.map txM
  | [], l, h => by injection h with h; subst h; rfl
  | p :: r, l, h => by
    unfold prIs at h
    split at h
    · rename_i m l' h1 h2
      injection h with h
      subst h
      rw [(prI_some h1).1, prIs_some h2]
      rfl
    · cases h
theorem map_prS : ∀ {l : List Nsp}, (∀ m ∈ l, NspOk m) → (l.map txM).map prS = l
  | [], _ => rfl
  | m :: r, h => by
    show prS (txM m) :: (r.map txM).map prS = _
    rw [prS_tx (h m (by simp)), map_prS (fun x hx => h x (by simp [hx]))]
theorem splL_tx {l : List Nsp} (h : ∀ m ∈ l, NspOk m) (hn : l ≠ []) : splL 44 (txL l) = l.map txM := by
  unfold txL
  rw [if_neg hn]
  refine splL_join (by simpa using hn) (fun x hx => ?_)
  rw [List.mem_map] at hx
  obtain ⟨m, hm, rfl⟩ := hx
  exact txM_no (h m hm)
/-- the program reads it, and what is read is right -/
def RdI (s : Bs) (l : List Nsp) : Prop := prIs (splL 44 s) = some l ∧ MksOk l
/-- the reference does -/
def RdS (s : Bs) (l : List Nsp) : Prop := (splL 44 s).map prS = l ∧ MksOk l ∧ txL l = s
theorem rd_same {s : Bs} {l : List Nsp} : RdI s l ↔ RdS s l := by
  constructor
  · rintro ⟨h1, h2⟩
    have h3 := prIs_some h1
    have hn : l ≠ [] := fun e => by subst e; exact splL_ne 44 s h3
    refine ⟨by rw [h3]; exact map_prS (mks_all h2), h2, ?_⟩
    unfold txL
    rw [if_neg hn, ← h3]
    exact joinC_splL 44 s
  · rintro ⟨h1, h2, h3⟩
    have hn : l ≠ [] := fun e => by
      subst e
      have := splL_ne 44 s
      cases hs : splL 44 s with
      | nil => exact this hs
      | cons a b => rw [hs] at h1; cases h1
    refine ⟨?_, h2⟩
    rw [← h3, splL_tx (mks_all h2) hn]
    exact prIs_tx (mks_all h2)
/-- what ReadMarks returns -/
noncomputable def rmE (s : Bs) : Int := bif B (s = [45] ∨ ∃ l, RdI s l) then 0 else 6
noncomputable def rmL (s : Bs) : List Nsp := @ite _ (s ≠ [45] ∧ MksOk ((prIs (splL 44 s)).getD [])) (Classical.propDecidable _) ((prIs (splL 44 s)).getD []) []
theorem rm_dash : rmE [45] = 0 ∧ rmL [45] = [] := ⟨by unfold rmE; rw [B_true (.inl rfl)]; rfl, by unfold rmL; rw [if_neg (fun h => h.1 rfl)]⟩
theorem rm_yes {s : Bs} {l : List Nsp} (hs : s ≠ [45]) (h : RdI s l) : rmE s = 0 ∧ rmL s = l := by
  refine ⟨by unfold rmE; rw [B_true (.inr ⟨l, h⟩)]; rfl, ?_⟩
  unfold rmL
  rw [h.1, Option.getD_some, if_pos ⟨hs, h.2⟩]
theorem rm_no {s : Bs} (hs : s ≠ [45]) (h : ∀ l, ¬ RdI s l) : rmE s = 6 ∧ rmL s = [] := by
  refine ⟨by unfold rmE; rw [B_false (by rintro (e | ⟨l, hl⟩); exact hs e; exact h l hl)]; rfl, ?_⟩
  unfold rmL
  split
  · rename_i hh
    cases e : prIs (splL 44 s) with
    | none => rfl
    | some l => rw [e] at hh; exact absurd ⟨e, hh.2⟩ (h l)
  · rfl
end Go.Proofs.YtbddkmlfjghllaaGreatDoor
