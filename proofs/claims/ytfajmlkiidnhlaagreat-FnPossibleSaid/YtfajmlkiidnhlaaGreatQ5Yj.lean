/- Plain: what the law FnPossible asks. -/
import Derived.Test.YtfajmlkiidnhlaaGreatQ5Yq
import Derived.Test.YtfajmlkiidnhlaaGreatQ5Pk
import Derived.Test.YtfajmlkiidnhlaaGreatQ5W
import Derived.Test.YtfajmlkiidnhlaaGreatQ3Yb
namespace Go.Proofs.YtfajmlkiidnhlaaGreat
set_option linter.unusedVariables false
set_option linter.unusedSimpArgs false

theorem ps_law {n : Net} {v : Int} (h : psE n v = 0) : ∃ vn : Nat, v = (vn : Int) ∧ vn < n.sets.length ∧ SetOk (setAt n.sets vn) ∧ codeE n true = 0 ∧ psL n (vn : Int) = posL n vn ∧ (posL n vn).length ≤ 300 := by
  have h0 : posE n v = 0 := Classical.byContradiction (fun hh => by rw [(ps_no hh).1] at h; exact hh h)
  obtain ⟨z1, z2, z3⟩ := codeE_zero h0
  obtain ⟨_, _, z4, z5⟩ := pos_zero h0
  have h2 : (posL n v.toNat).length ≤ 300 := Classical.byContradiction (fun hh => by rw [(ps_big h0 hh).1] at h; omega)
  have h3 := (ps_ok h0 h2).2
  obtain ⟨vn, rfl⟩ := Int.eq_ofNat_of_zero_le z4
  rw [Int.toNat_natCast] at h2 h3
  exact ⟨vn, rfl, by omega, z1.2.2.1 vn (by omega), codeE_ok z1 z3, h3, h2⟩
theorem pos_law {n : Net} {v : Nat} {d : Int} (h : codeE n true = 0) (hv : v < n.sets.length) (hpl : psL n (v : Int) = posL n v) (hl : (posL n v).length ≤ 300) (hd : HasDay (setAt n.sets v) d) :
    fixE n (v : Int) d = 0 ∧ codeE (fixV n (v : Int) d) true = 0 ∧ hdE (psL n (v : Int)) d = 0 ∧ hdV (psL n (v : Int)) d = hasV (fixV n (v : Int) d) := by
  have h1 := (codeE_zero h).1
  have hday : DayOk d := (h1.2.2.1 v hv).d.day hd
  obtain ⟨f1, f2⟩ := fix_ok (v := (v : Int)) h1 ⟨by omega, by omega⟩ hday (by rw [Int.toNat_natCast]; exact hd)
  rw [Int.toNat_natCast] at f1
  have hput : fixV n (v : Int) d = putDay n v d := f1
  obtain ⟨p1, p2, p3⟩ := pos_fix h hv hd
  have hS : SetOk (psL n (v : Int)) := by rw [hpl]; exact (posL_d h1 hv).ok hl
  refine ⟨f2, by rw [hput]; exact p2, by unfold hdE; rw [B_true hS, B_true hday]; rfl, ?_⟩
  have e1 : hdV (psL n (v : Int)) d = B (HasDay (psL n (v : Int)) d) := by unfold hdV; rw [B_true hS, B_true hday]; rfl
  rw [e1, hput, hasV_ok p2, hpl]
  exact Bool.eq_iff_iff.2 (by rw [B_iff, B_iff]; exact p3)
theorem pos_zero_len {n : Net} {v : Nat} (hv : v < n.sets.length) (hS : SetOk (setAt n.sets v)) (h0 : days (setAt n.sets v) = 0) (hpl : psL n (v : Int) = posL n v) : (psL n (v : Int)).length = 0 := by
  rw [hpl, pos_none hv (days_zero hS h0)]
  rfl
theorem sv_law {a : Net} (h : svE a = 0) : (svV a).sets.length = a.sets.length ∧ a.sets.length ≤ 8 ∧ ∀ i, i < a.sets.length → psE a (i : Int) = 0 ∧ psL a (i : Int) = setAt (svV a).sets i := by
  have h0 : codeE a true = 0 := Classical.byContradiction (fun hh => by rw [(sv_no hh).2] at h; exact hh h)
  have z1 := (codeE_zero h0).1
  rw [(sv_ok h0).2] at h
  have hL : Lim (svN a) := Classical.byContradiction (fun hh => by rw [(lim_no hh).1] at h; omega)
  have e : svV a = svN a := by rw [(sv_ok h0).1, (lim_yes hL).2]
  rw [e]
  refine ⟨posSS_len a, z1.1, fun i hi => ?_⟩
  have hv : posE a (i : Int) = 0 := by unfold posE; rw [B_true (vars1.2 ⟨by omega, by omega⟩)]; exact h0
  have hl : (posL a i).length ≤ 300 := by
    have h1 := hL i (by rw [show (svN a).sets = posSS a from rfl, posSS_len]; exact hi)
    rw [show setAt (svN a).sets i = posL a i from posSS_at hi] at h1
    exact h1
  have h2 := ps_ok hv (by rw [Int.toNat_natCast]; exact hl)
  rw [Int.toNat_natCast] at h2
  exact ⟨h2.1, by rw [h2.2]; exact (posSS_at hi).symm⟩
end Go.Proofs.YtfajmlkiidnhlaaGreat
