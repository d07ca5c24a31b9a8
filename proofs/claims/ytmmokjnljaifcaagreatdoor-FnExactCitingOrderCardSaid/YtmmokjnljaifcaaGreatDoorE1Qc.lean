/- Plain: the order of citing, told by names (the program) and by numbers (the reference). -/
import Derived.Test.YtmmokjnljaifcaaGreatDoorE1Jd
namespace Go.Proofs.YtmmokjnljaifcaaGreatDoor
set_option linter.unusedVariables false
set_option linter.unusedSimpArgs false

/-- the numbers of deeds of a list -/
def IxOk (ds : List Ded) (out : List Int) : Prop := ∀ x, x ∈ out → 0 ≤ x ∧ x < (ds.length : Int)
theorem IxOk.nil (ds : List Ded) : IxOk ds [] := fun x hx => absurd hx (by simp)
theorem coNext_cases (ds : List Ded) (out : List Int) : (coNext ds out = -1 ∧ ∀ i, i < ds.length → ¬ CoFree ds out i) ∨ ∃ j, j < ds.length ∧ coNext ds out = (j : Int) ∧ CoFree ds out j ∧ ∀ i, i < j → ¬ CoFree ds out i :=
  fstIx_cases (CoFree ds out) ds.length
theorem IxOk.push {ds : List Ded} {out : List Int} (h : IxOk ds out) (hn : ¬ coNext ds out = -1) : IxOk ds (out ++ [coNext ds out]) := fun x hx => by
  rcases List.mem_append.1 hx with hx | hx
  · exact h x hx
  · rw [List.mem_singleton] at hx
    subst hx
    rcases coNext_cases ds out with ⟨e, _⟩ | ⟨j, hj, e, _⟩
    · exact absurd e hn
    · rw [e]; omega
theorem coTo_ix {ds : List Ded} : ∀ {n : Nat} {out : List Int}, coTo ds n = some out → IxOk ds out
  | 0, out, h => by have h : some [] = some out := h; injection h with h; subst h; exact IxOk.nil ds
  | n + 1, out, h => by
    cases e : coTo ds n with
    | none => rw [coTo_none e] at h; cases h
    | some o =>
      by_cases h1 : coNext ds o = -1
      · rw [coTo_stop e h1] at h; cases h
      · rw [coTo_go e h1] at h
        injection h with h
        subst h
        exact (coTo_ix e).push h1
/-- the name of a deed stands among the names of those that stand, if and only if its number does -/
theorem nm_in {W : Wrl} {ds : List Ded} {out : List Int} (h : ∀ i, i < ds.length → DedOk W ds i) (ho : IxOk ds out) {c : ByteArray} (hc : 0 ≤ ddIx ds c) :
    c ∈ out.map (fun x => (dedAt ds x.toNat).nm) ↔ ddIx ds c ∈ out := by
  rw [List.mem_map]
  constructor
  · rintro ⟨x, hx, e⟩
    obtain ⟨x0, x1⟩ := ho x hx
    have h1 := ddIx_self h (i := x.toNat) (by omega)
    rw [e] at h1
    rw [h1, show ((x.toNat : Nat) : Int) = x from by omega]
    exact hx
  · intro hx
    obtain ⟨_, h2, h3⟩ := ddIx_lt hc
    exact ⟨ddIx ds c, hx, h3⟩
/-- what the program asks of the next deed -/
def CoFreeN (ds : List Ded) (names : List ByteArray) (i : Nat) : Prop := (dedAt ds i).nm ∉ names ∧ ∀ k, k < (dedAt ds i).ci.length → strAt (dedAt ds i).ci k ∈ names
theorem co_same {W : Wrl} {ds : List Ded} {out : List Int} (h : ∀ i, i < ds.length → DedOk W ds i) (ho : IxOk ds out) {i : Nat} (hi : i < ds.length) :
    CoFreeN ds (out.map (fun x => (dedAt ds x.toNat).nm)) i ↔ CoFree ds out i := by
  have hself := ddIx_self h hi
  have h0 : 0 ≤ ddIx ds (dedAt ds i).nm := by rw [hself]; omega
  have hn := nm_in h ho h0
  rw [hself] at hn
  unfold CoFreeN CoFree
  constructor
  · rintro ⟨a, b⟩
    exact ⟨fun t => a (hn.2 t), fun k hk => (nm_in h ho (((h i hi).1.2.2.2.2.2.2.2) k hk).2.1).1 (b k hk)⟩
  · rintro ⟨a, b⟩
    exact ⟨fun t => a (hn.1 t), fun k hk => (nm_in h ho (((h i hi).1.2.2.2.2.2.2.2) k hk).2.1).2 (b k hk)⟩
theorem coNext_names {W : Wrl} {ds : List Ded} {out : List Int} (h : ∀ i, i < ds.length → DedOk W ds i) (ho : IxOk ds out) :
    fstIx (CoFreeN ds (out.map (fun x => (dedAt ds x.toNat).nm))) ds.length = coNext ds out :=
  fstIx_congr ds.length (fun i hi => co_same h ho hi)
end Go.Proofs.YtmmokjnljaifcaaGreatDoor
